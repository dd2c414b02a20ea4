/- The walk of vary.Names. -/
import Derived.Test.YtdlajobnnnmojaaDoorMet
import Derived.Test.YtdlajobnnnmojaaDoorValues
import Derived.Test.YtdlajobnnnmojaaDoorSplit
import Derived.Test.YtdlajobnnnmojaaDoorToken
namespace Go.Proofs.YtdlajobnnnmojaaDoor
open Go.RowKit Go.WideMaps Go.Maps

/-- A reply, by value. -/
def repV (st : Int) (re : ByteArray) (mi : Int) (fa : Option Addr) (fn fc : Nat) (bo : ByteArray) : Value := .agg #[.int .i64 st, .string re, .int .i64 mi, .slice fa fn fc, .string bo]
def NamesPost (w : World) (o : Option (List (List UInt8))) (e : Ending) (w' : World) : Prop :=
  ∃ a cap, e = .returned (.tuple #[.slice a (optL o).length cap, .bool o.isSome]) ∧ OwnS w.heap.size (.slice a (optL o).length cap) (optL o) w' ∧ Below w.heap.size w w'
theorem NamesPost.none {w w' : World} (h : Below w.heap.size w w') : NamesPost w Option.none (.returned (.tuple #[.slice Option.none 0 0, .bool false])) w' := ⟨Option.none, 0, rfl, OwnS.nil _ _, h⟩
def tailO (o : Option (List (List UInt8))) (rest : List (List UInt8)) : Option (List (List UInt8)) := match o with | none => none | some a => namesVs a rest

set_option maxRecDepth 100000 in
set_option maxHeartbeats 4000000 in
theorem vnames_any (st : Int) (re : ByteArray) (mi : Int) (A : Option Addr) (n c : Nat) (bo : ByteArray) (xs : List Fld) (w : World) (hr : Rd A n 2 (fldsV xs) w) (hn : n ≤ 1000) (hs : ∀ f ∈ xs, f.1.length ≤ 1000000 ∧ f.2.length ≤ 1000000) :
    Calls Tryd.prog 10 #[repV st re mi A n c bo] w (NamesPost w (namesO xs)) := by
  have hmm := @run_makeMap Tryd.prog
  obtain ⟨W0, hW0⟩ : ∃ W0, w.alloc (.cells #[.int .i64 st, .string re, .int .i64 mi, .slice A n c, .string bo] 24) = W0 := ⟨_, rfl⟩
  have hB0 : Below w.heap.size w W0 := by rw [← hW0]; exact (Below.refl w.heap.size w).alloc (Nat.le_refl _) _
  have hV0 : W0.cell? ⟨w.heap.size, 3, none⟩ = some (.slice A n c) := by rw [← hW0]; exact World.cell?_alloc_mark w _ _ _ 3
  have hz0 : W0.heap.size = w.heap.size + 1 := by rw [← hW0]; simp
  have k0 := fun W (hb : Below w.heap.size w W) => values_any A n c xs ⟨varyW.toArray⟩ W (hr.below hb) (by omega) (fun f hf => (hs f hf).1) (by decide)
  have hvl := valuesL_le xs varyW
  have hxn := hr.fld
  have hvb : ∀ v ∈ valuesL xs varyW, v.length ≤ 1000000 := by
    intro v hv
    obtain ⟨f, hf, e⟩ := valuesL_mem hv
    rw [← e]; exact (hs f hf).2
  have hvn : (valuesL xs varyW).length ≤ 1000 := by omega
  simp only at k0
  obtain ⟨tot, htot⟩ : ∃ t, namesO xs = t := ⟨_, rfl⟩
  rw [htot]
  have ht2 : namesVs [] (valuesL xs varyW) = tot := htot
  clear hvl hxn hr hs htot
  generalize valuesL xs varyW = vs at *
  have K0 := Lib.hid k0; have HVB := Lib.hid hvb; have HT := Lib.hid ht2; have HW0 := Lib.hid hW0; have HZ0 := Lib.hid hz0; clear k0 hvb ht2 hW0 hz0
  unfold repV
  go_enter Tryd.func10, Tryd.ntmps10
  go_upto_region 1 with (fail)
  rw [HW0.out]
  have hV1 := (World.cell?_alloc_lt W0 (.map #[] 0) ⟨w.heap.size, 3, none⟩ (by show w.heap.size < W0.heap.size; have := HZ0.out; omega)).trans hV0
  go_wp2_with fail
  clear hmm hV1
  have hB1 := hB0.alloc hB0.size (.map #[] 0)
  refine (K0.out _ hB1).mono ?_
  rintro e w2 ⟨va, vc, rfl, ho2, hb2⟩
  have hMet0 := (Met.start W0).below hb2
  have HV := Lib.hid ho2.rd.2
  have hB2 := hB1.trans (hb2.mono hB1.size)
  have hM : W0.heap.size < w2.heap.size := by have := hb2.size; simp at this; omega
  have hMw : w.heap.size ≤ W0.heap.size := hB0.size
  clear ho2 hb2 hB1 hB0 hV0
  generalize W0.heap.size = M at *
  have hnm : 0 < vs.length → ∀ g o, va = some ⟨g, o, none⟩ → some M ≠ some g := by
    obtain ⟨es, cl, hm⟩ := hMet0.map
    exact rd_not_map HV.out (by decide) hm
  have HM0 := Lib.hid hMet0; have HNM := Lib.hid hnm; clear hMet0 hnm
  have hg0 := World.grownBy.refl w2 (some M)
  go_wp2_with fail
  go_loopw [18, 5] (fun i l wr => ∃ (k q : Nat) (acc : List (List UInt8)) (f : List UInt8 → Int), k ≤ vs.length ∧ i = .int .i64 k ∧ q ≤ 64 * k ∧ acc.length ≤ q ∧ Hid (OwnS w2.heap.size l acc wr ∧ Met M q f wr ∧ Count f acc q) ∧ w2.grownBy wr (some M) ∧ Hid (namesVs acc (vs.drop k) = tot)) (fun i _ _ => vs.length - (intOf i).toNat)
  case atStart => exact ⟨0, 0, [], fun _ => 0, Nat.zero_le _, rfl, by omega, by simp, Lib.hid ⟨OwnS.nil _ _, HM0.out, Count.start⟩, hg0, by rw [List.drop_zero]; exact HT⟩
  case round =>
    clear hg0 HM0 HT
    obtain ⟨k, q, acc, f, hk, rfl, hq, hacc, HO, hgr, HT⟩ := hrel
    have hVr := HV.out.grown hgr HNM.out
    by_cases hlt : k < vs.length
    · obtain ⟨b, o, rfl, hl, c1⟩ := hVr.str_at (k := k) hlt
      have hv := HVB.out vs[k] (List.getElem_mem _)
      have hdr := HT.out
      rw [drop_consL vs k hlt] at hdr
      generalize vs[k] = v at *
      rw [namesVs] at hdr
      have hpl := splitL_le' 44 v
      have hpt := Nat.le_trans (split_total 44 v) hv
      have k1 := fun w => split_any ⟨v.toArray⟩ 44 w (by rw [Lib.size_eq]; exact hv)
      simp only at k1
      generalize splitL 44 v = r at *
      obtain ⟨ps, er⟩ := r
      simp only at hpl hpt hdr
      have K1 := Lib.hid k1; have HD := Lib.hid hdr
      clear k1 hdr hv hVr
      go_wp2_with fail
      refine (K1.out _).mono ?_
      rintro e w3 ⟨pa, pc, rfl, ho3, hb3⟩
      simp only at ho3
      have hbw : Below w.heap.size w w3 := by
        refine (hB2.trans ?_).trans (hb3.mono (by have := hgr.size; have := hB2.size; omega))
        exact ⟨hgr.os, hgr.tape, hgr.output, hgr.size, fun j hj => hgr.block j (by have := hB2.size; omega) (by intro x; cases x; omega)⟩
      cases he : (er == 0)
      · have n1 : (er != 0) = true := by simp [bne, he]
        have hd := HD.out
        rw [he, cond_false] at hd
        subst hd
        go_wp2
        go_ret2
        exact NamesPost.none hbw
      · have n1 : (er != 0) = false := by simp [bne, he]
        have hd := HD.out
        rw [he, cond_true] at hd
        have hd2 : tailO (namesPs acc ps) (vs.drop (k + 1)) = tot := hd
        obtain ⟨tp, htp⟩ : ∃ t, namesPs acc ps = t := ⟨_, rfl⟩
        rw [htp] at hd2
        have HD2 := Lib.hid hd2; have HTP := Lib.hid htp
        clear hd hd2 htp HD HT
        have hst : Hid (OwnS w2.heap.size u5 acc w3 ∧ Met M q f w3 ∧ Count f acc q ∧ Rd pa ps.length 1 (strsV ps) w3 ∧ Sep u5 pa ps.length) := by
          refine Lib.hid ⟨HO.out.1.below hb3, HO.out.2.1.below hb3, HO.out.2.2, ho3.rd.2, ?_⟩
          intro _ g o e x
          have h1 := (HO.out.1.lt g x).2
          have h2 := own_new ho3 g o e
          omega
        have hpm : 0 < ps.length → ∀ g o, pa = some ⟨g, o, none⟩ → some M ≠ some g := by
          intro hp
          obtain ⟨es, cl, hm⟩ := (HO.out.2.1.below hb3).map
          exact rd_not_map ho3.rd.2 (by decide) hm hp
        have HPM := Lib.hid hpm; clear hpm
        have hgr3 : w2.grownBy w3 (some M) := hgr.trans ⟨hb3.os, hb3.tape, hb3.output, hb3.size, fun j hj _ => hb3.block j hj⟩
        clear HO ho3 hb3 hbw hgr K1 c1
        go_wp2_with fail
        obtain ⟨wo, rfl⟩ : ∃ wo : World, wo = wr := ⟨_, rfl⟩
        go_loopw [31, 5] (fun j l wi => ∃ (m q2 : Nat) (ac : List (List UInt8)) (f2 : List UInt8 → Int), m ≤ ps.length ∧ j = .int .i64 m ∧ q2 ≤ q + m ∧ ac.length ≤ q2 ∧ Hid (OwnS w2.heap.size l ac wi ∧ Met M q2 f2 wi ∧ Count f2 ac q2 ∧ Rd pa ps.length 1 (strsV ps) wi ∧ Sep l pa ps.length) ∧ w2.grownBy wi (some M) ∧ Hid (namesPs ac (ps.drop m) = tp)) (fun j _ _ => ps.length - (intOf j).toNat)
        case atStart => exact ⟨0, q, acc, f, Nat.zero_le _, rfl, by omega, hacc, hst, hgr3, by rw [List.drop_zero]; exact HTP⟩
        case round =>
          clear hst hgr3 HTP
          obtain ⟨m, q2, ac, f2, hm, rfl, hq2, hac, HI, hgi, HTP⟩ := hrel
          by_cases hlm : m < ps.length
          · obtain ⟨b2, o2, rfl, hl2, c2⟩ := HI.out.2.2.2.1.str_at (k := m) hlm
            have hpp := Nat.le_trans (total_mem (List.getElem_mem hlm)) hpt
            have hdr := HTP.out
            rw [drop_consL ps m hlm, namesPs] at hdr
            generalize ps[m] = p at *
            have hll : (lowerL p).length ≤ 1000000 := by rw [lower_length]; exact hpp
            have k4 := fun w => lower_any ⟨p.toArray⟩ w (by rw [Lib.size_eq]; exact hpp)
            simp only at k4
            generalize lowerL p = nm at *
            have k5 := fun w => token_any ⟨nm.toArray⟩ w (by rw [Lib.size_eq]; exact hll)
            simp only at k5
            have hkey := keyStr (l := nm) (by omega)
            have K4 := Lib.hid k4; have K5 := Lib.hid k5; have HD := Lib.hid hdr; have HKEY := Lib.hid hkey
            clear k4 k5 hdr hkey hpp
            go_wp2_with fail
            refine (K4.out _).mono ?_
            rintro e w4 ⟨rfl, hb4⟩
            obtain ⟨D, hown, hmap, hval⟩ := HI.out.2.1.below hb4
            have hcnt := HI.out.2.2.1
            have hb1 := hcnt.1 nm
            have hst4 : Hid (OwnS w2.heap.size u5 ac w4 ∧ Rd (some ⟨b2, o2, none⟩) ps.length 1 (strsV ps) w4) := Lib.hid ⟨HI.out.1.below hb4, HI.out.2.2.2.1.below hb4⟩
            have hsep := HI.out.2.2.2.2
            have hne5 : some M ≠ u5.ownBlock := by
              obtain ⟨es, cl, hm⟩ := (HI.out.2.1.below hb4).map
              exact not_map hm hst4.out.1
            have hgr4 : w2.grownBy w4 (some M) := hgi.trans ⟨hb4.os, hb4.tape, hb4.output, hb4.size, fun j hj _ => hb4.block j hj⟩
            have HOWN := Lib.hid hown; have HVAL := Lib.hid hval; have HCNT := Lib.hid hcnt; have HSEP := Lib.hid hsep; have HNE5 := Lib.hid hne5
            clear hown hval hcnt hsep hne5 HI hgi hb4 c2
            go_wp2_with (at_lookup; refine wpList_lookup_own_int _ rfl _ _ 50 rfl 9 3 .i64 kStr Tryd.underlying50 Tryd.underlying3 (zInt _) M q2 D rfl HOWN.out _ _ rfl HKEY.out ?_)
            intro c0 hat hwc
            have hcf : c0 = f2 nm := by
              have := HVAL.out nm
              rw [hat] at this
              injection this with h
              injection h
            have hc1 : 0 ≤ c0 := by rw [hcf]; exact hb1.1
            have hc2 : c0 ≤ q2 := by rw [hcf]; exact hb1.2
            have HCF := Lib.hid hcf
            clear hat hwc hcf
            go_wp2_with (at_mapUpdate; refine wpList_mapUpdate_own _ rfl _ _ _ 50 rfl 9 3 kStr Tryd.underlying50 (plainElem Tryd.prog 3) M q2 D rfl HOWN.out (by unfold maxLen; omega) _ _ (.string nm) rfl rfl HKEY.out _ [] (plainElem_int Tryd.underlying3 (WalkArith.wf_i64 (by omega))) ?_)
            intro w5 hown5 hgrow5
            have hmet5 : Met M (q2 + 1) (bump f2 nm) w5 := by
              refine ⟨_, hown5, hmap.put _ _, fun l => ?_⟩
              unfold bump
              by_cases e : l = nm
              · subst e
                rw [if_pos rfl, atKey_put_same hmap (show WideAt.IsKeyLit (.string l) from trivial), HCF.out]
              · rw [if_neg e, atKey_put_other (by intro x; injection x with x; exact e x)]
                exact HVAL.out l
            have hcnt5 := HCNT.out.step nm
            have hst5 : Hid (OwnS w2.heap.size u5 ac w5 ∧ Rd (some ⟨b2, o2, none⟩) ps.length 1 (strsV ps) w5) := by
              refine Lib.hid ⟨own_grown hst4.out.1 hgrow5 (Or.inl HNE5.out), hst4.out.2.grown hgrow5 HPM.out⟩
            have hgr5 : w2.grownBy w5 (some M) := hgr4.trans hgrow5
            have HM5 := Lib.hid hmet5; have HC5 := Lib.hid hcnt5
            clear hmet5 hcnt5 hown5 hgrow5 hgr4 hst4 HOWN HVAL
            have hbw5 : Below w.heap.size w w5 := hB2.trans ⟨hgr5.os, hgr5.tape, hgr5.output, hgr5.size, fun j hj => hgr5.block j (by have := hB2.size; omega) (by intro x; cases x; omega)⟩
            cases htk : tokenL nm
            · have ht : tot = none := by
                have h1 := HD.out
                have : nameOk nm = false := by unfold nameOk; rw [htk]; rfl
                rw [this, cond_false] at h1
                have h2 := HD2.out
                rw [← h1] at h2
                exact h2.symm
              subst ht
              have HTK := Lib.hid htk; clear htk
              go_wp2_with (go_at_call 21; refine (K5.out _).mono ?_; rintro e w6 ⟨rfl, rfl⟩; rw [HTK.out])
              go_ret2
              exact NamesPost.none hbw5
            · cases hst : (nm == [42])
              · have hok : nameOk nm = true := by unfold nameOk; rw [htk, hst]; rfl
                have h1 := HD.out
                rw [hok, cond_true] at h1
                have HN := Lib.hid h1
                have HTK := Lib.hid htk
                clear htk h1 hok HD
                go_wp2_with (first | (go_at_call 21; refine (K5.out _).mono ?_; rintro e w6 ⟨rfl, rfl⟩; rw [HTK.out]) | (at_lookup; refine wpList_lookup_own_int _ rfl _ _ 50 rfl 9 3 .i64 kStr Tryd.underlying50 Tryd.underlying3 (zInt _) M (q2 + 1) (HM5.out).choose rfl (HM5.out).choose_spec.1 _ _ rfl HKEY.out ?_))
                intro c3 hat3 hwc3
                have hc3 : c3 = bump f2 nm nm := by
                  have := (HM5.out).choose_spec.2.2 nm
                  rw [hat3] at this
                  injection this with h
                  injection h
                have hbn : bump f2 nm nm = f2 nm + 1 := by unfold bump; rw [if_pos rfl]
                rw [hbn] at hc3
                have hz := HCNT.out.2 nm
                have HC3 := Lib.hid hc3
                clear hat3 hwc3 hc3 hbn
                cases hct : ac.contains nm
                · have h0 : f2 nm = 0 := hz.2 hct
                  have t1 : (c3 == 1) = true := by rw [HC3.out, h0]; rfl
                  have hadd : addN ac nm = ac ++ [nm] := by unfold addN; rw [hct]; rfl
                  have HADD := Lib.hid hadd
                  clear hz hct h0 hadd hst
                  go_wp2_with (at_builtin; refine app_str w2.heap.size nm hst5.out.1 hgr5.size (by omega) rfl _ _ rfl rfl rfl ?_)
                  intro v' w7 hO7 hb7 hfar7
                  have hI7 : Hid (OwnS w2.heap.size v' (addN ac nm) w7 ∧ Met M (q2 + 1) (bump f2 nm) w7 ∧ Count (bump f2 nm) (addN ac nm) (q2 + 1) ∧ Rd (some ⟨b2, o2, none⟩) ps.length 1 (strsV ps) w7 ∧ Sep v' (some ⟨b2, o2, none⟩) ps.length) := by
                    obtain ⟨r1, r2⟩ := hst5.out.2.far hfar7 HSEP.out
                    refine Lib.hid ⟨?_, HM5.out.far hst5.out.1 hfar7, HC5.out, r1, r2⟩
                    rw [HADD.out]; exact hO7
                  have hgr7 : w2.grownBy w7 (some M) := ⟨hb7.os.trans hgr5.os, hb7.tape.trans hgr5.tape, hb7.output.trans hgr5.output, Nat.le_trans hgr5.size hb7.size, fun j hj hne => (hb7.block j hj).trans (hgr5.block j hj hne)⟩
                  have hal := addN_le ac nm
                  clear hO7 hb7 hfar7 hst5 HM5
                  go_wp2
                  go_roundw
                  case rel => exact ⟨m + 1, q2 + 1, addN ac nm, bump f2 nm, by omega, by go_num, by omega, by omega, hI7, hgr7, HN⟩
                  case measure => simp [intOf]; omega
                · have h0 : f2 nm ≠ 0 := fun h => by have := hz.1 h; rw [hct] at this; cases this
                  have t1 : (c3 == 1) = false := by rw [beq_eq_false_iff_ne, HC3.out]; omega
                  have hadd : addN ac nm = ac := by unfold addN; rw [hct]; rfl
                  have hI7 : Hid (OwnS w2.heap.size u5 (addN ac nm) w5 ∧ Met M (q2 + 1) (bump f2 nm) w5 ∧ Count (bump f2 nm) (addN ac nm) (q2 + 1) ∧ Rd (some ⟨b2, o2, none⟩) ps.length 1 (strsV ps) w5 ∧ Sep u5 (some ⟨b2, o2, none⟩) ps.length) :=
                    Lib.hid ⟨by rw [hadd]; exact hst5.out.1, HM5.out, HC5.out, hst5.out.2, HSEP.out⟩
                  have hal := addN_le ac nm
                  clear hz hct h0 hadd hst hst5 HM5
                  go_wp2
                  go_roundw
                  case rel => exact ⟨m + 1, q2 + 1, addN ac nm, bump f2 nm, by omega, by go_num, by omega, by omega, hI7, hgr5, HN⟩
                  case measure => simp [intOf]; omega
              · have ht : tot = none := by
                  have h1 := HD.out
                  have : nameOk nm = false := by unfold nameOk; rw [htk, hst]; rfl
                  rw [this, cond_false] at h1
                  have h2 := HD2.out
                  rw [← h1] at h2
                  exact h2.symm
                subst ht
                have HTK := Lib.hid htk; clear htk
                go_wp2_with (go_at_call 21; refine (K5.out _).mono ?_; rintro e w6 ⟨rfl, rfl⟩; rw [HTK.out])
                go_ret2
                exact NamesPost.none hbw5
          · have hme : m = ps.length := by omega
            subst hme
            have h1 := HTP.out
            rw [List.drop_length, namesPs] at h1
            have h2 := HD2.out
            rw [← h1] at h2
            have HT2 : Hid (namesVs ac (vs.drop (k + 1)) = tot) := Lib.hid h2
            have hI : Hid (OwnS w2.heap.size u5 ac wr ∧ Met M q2 f2 wr ∧ Count f2 ac q2) := Lib.hid ⟨HI.out.1, HI.out.2.1, HI.out.2.2.1⟩
            clear HI h1 h2 HTP HD2
            go_wp2
            go_roundw
            case rel => exact ⟨k + 1, q2, ac, f2, by omega, by go_num, by omega, by omega, hI, hgi, HT2⟩
            case measure => simp [intOf]; omega
    · have hke : k = vs.length := by omega
      subst hke
      have ht := HT.out
      rw [List.drop_length, namesVs] at ht
      subst ht
      obtain ⟨la, lc, rfl⟩ := HO.out.1.shape
      have hbw : Below w.heap.size w wr := hB2.trans ⟨hgr.os, hgr.tape, hgr.output, hgr.size, fun j hj => hgr.block j (by have := hB2.size; omega) (by intro x; cases x; omega)⟩
      go_wp2
      go_ret2
      exact ⟨la, lc, rfl, HO.out.1.base hB2.size, hbw⟩
end Go.Proofs.YtdlajobnnnmojaaDoor
