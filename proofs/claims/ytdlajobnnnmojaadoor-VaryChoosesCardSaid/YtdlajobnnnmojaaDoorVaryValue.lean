/- The walk of request.value (vary). -/
import Derived.Test.YtdlajobnnnmojaaDoorVarySpec
import Derived.Test.YtdlajobnnnmojaaDoorValues
import Derived.Test.YtdlajobnnnmojaaDoorSplit
import Derived.Test.YtdlajobnnnmojaaDoorJoin
namespace Go.Proofs.YtdlajobnnnmojaaDoor
open Go.RowKit

theorem b64_trans {B : Nat} {w w1 w2 : World} (h : Below B w w1) (k : Below w1.heap.size w1 w2) (hs : B ≤ w1.heap.size) : Below B w w2 := h.trans (k.mono hs)

set_option maxRecDepth 100000 in
set_option maxHeartbeats 4000000 in
theorem vvalue_any (A : Option Addr) (n c : Nat) (xs : List Fld) (name : ByteArray) (w : World) (hr : Rd A n 2 (fldsV xs) w) (hn : n ≤ 1000) (hs : ∀ f ∈ xs, f.1.length ≤ 1000000 ∧ f.2.length ≤ 1000000) (hname : name.size ≤ 1000000) :
    Calls Tryd.prog 33 #[.slice A n c, .string name] w fun e w' => e = .returned (.string ⟨(valueL xs name.data.toList).toArray⟩) ∧ Below w.heap.size w w' := by
  have k0 := values_any A n c xs name w hr (by omega) (fun f hf => (hs f hf).1) hname
  have hvl := valuesL_le xs name.data.toList
  have hxn := hr.fld
  have hvb : ∀ v ∈ valuesL xs name.data.toList, v.length ≤ 1000000 := by
    intro v hv
    obtain ⟨f, hf, e⟩ := valuesL_mem hv
    rw [← e]; exact (hs f hf).2
  unfold valueL
  have hvn : (valuesL xs name.data.toList).length ≤ 1000 := by omega
  clear hvl hxn hr hs
  generalize valuesL xs name.data.toList = vs at *
  have K0 := Lib.hid k0; have HVB := Lib.hid hvb; clear k0 hvb
  go_enter Tryd.func33, Tryd.ntmps33
  go_wp2_with fail
  refine K0.out.mono ?_
  rintro e w1 ⟨va, vc, rfl, ho1, hb1⟩
  have HV := Lib.hid ho1.rd.2
  have hB1 := Below.refl w1.heap.size w1
  clear ho1
  go_wp2_with fail
  go_loopw [16, 5] (fun i l wr => ∃ k : Nat, k ≤ vs.length ∧ i = .int .i64 k ∧ Hid (OwnS w1.heap.size l (allP (vs.take k)) wr) ∧ Below w1.heap.size w1 wr) (fun i _ _ => vs.length - (intOf i).toNat)
  case atStart => exact ⟨0, Nat.zero_le _, rfl, Lib.hid (OwnS.nil _ _), hB1⟩
  case round =>
    clear hB1
    obtain ⟨k, hk, rfl, HO, hbw⟩ := hrel
    by_cases hlt : k < vs.length
    · obtain ⟨b, o, rfl, hl, c1⟩ := (HV.out.below hbw).str_at (k := k) hlt
      have hv := HVB.out vs[k] (List.getElem_mem _)
      have hal := allP_le (vs.take k)
      rw [List.length_take] at hal
      have hsn := allP_snoc (vs.take k) vs[k]
      rw [← take_snocL vs k hlt] at hsn
      generalize vs[k] = v at *
      have hpl := piecesOf_le v
      have k1 := fun w => split_any ⟨v.toArray⟩ 44 w (by rw [Lib.size_eq]; exact hv)
      have k2 := fun w => trim_any ⟨v.toArray⟩ w (by rw [Lib.size_eq]; exact hv)
      simp only at k1 k2
      have hpo : piecesOf v = bif (splitL 44 v).2 == 0 then (splitL 44 v).1 else [trimL v] := rfl
      generalize splitL 44 v = r at *
      generalize trimL v = tv at *
      generalize piecesOf v = ps at *
      obtain ⟨ls, er⟩ := r
      simp only at hpo
      have K1 := Lib.hid k1; have K2 := Lib.hid k2; have HP := Lib.hid hpo; have Hsn := Lib.hid hsn
      clear k1 k2 hpo hsn hv
      go_wp2_with fail
      refine (K1.out _).mono ?_
      rintro e w2 ⟨pa, pc, rfl, ho2, hb2⟩
      have hb12 := b64_trans hbw hb2 hbw.size
      have hwr2 := hb2.size
      have HO2 := Lib.hid ho2; clear ho2
      have HOw := HO.out.below hb2
      have HOW := Lib.hid HOw; have HNEW := Lib.hid HO.out.lt; clear HOw HO
      go_upto_if 26 with (fail)
      go_cut [8] (fun s8 wx => ∃ pa pc, s8 = .slice pa ps.length pc ∧ Hid (Rd pa ps.length 1 (strsV ps) wx ∧ ∀ g o, pa = some ⟨g, o, none⟩ → wr.heap.size ≤ g) ∧ Below w2.heap.size w2 wx)
      case first =>
        cases he : (er == 0)
        · have n1 : (er != 0) = true := by simp [bne, he]
          have hps := HP.out
          rw [he, cond_false] at hps
          have HPS := Lib.hid hps; clear hps HP
          go_wp2_with (go_at_call 44; refine (K2.out _).mono ?_; rintro e w3 ⟨rfl, hb3⟩)
          go_meet
          rw [HPS.out]
          refine ⟨_, _, rfl, Lib.hid ⟨⟨rfl, fun _ => ⟨_, _, rfl, by simp, fun j u hu => ?_⟩⟩, ?_⟩, hb3.alloc hb3.size _⟩
          · rw [Nat.zero_add, World.cell?_alloc_mark]
            simpa [strsV] using hu
          · intro g o e
            cases e
            have := hb3.size
            omega
        · have n1 : (er != 0) = false := by simp [bne, he]
          have hps := HP.out
          rw [he, cond_true] at hps
          have HPS := Lib.hid hps; clear hps HP
          go_wp2
          go_meet
          rw [HPS.out]
          exact ⟨_, _, rfl, Lib.hid ⟨HO2.out.rd.2, own_new HO2.out⟩, Below.refl _ _⟩
      case rest =>
        obtain ⟨qa, qc, rfl, HQ, hb3⟩ := hcut
        have hbc := b64_trans hb12 hb3 (by have := hbw.size; omega)
        have hst : Hid (OwnS w1.heap.size u5 (allP (vs.take k) ++ keepP (ps.take 0)) wc ∧ Sep u5 qa ps.length ∧ Rd qa ps.length 1 (strsV ps) wc) := by
          refine Lib.hid ⟨?_, ?_, HQ.out.1⟩
          · have : keepP (ps.take 0) = [] := rfl
            rw [this, List.append_nil]; exact HOW.out.below hb3
          · intro _ g o e x
            have h1 := (HNEW.out g x).2
            have h2 := HQ.out.2 g o e
            omega
        clear HQ HOW HO2 HNEW HP K1 K2 hb3 hb2 hb12 hwr2
        go_wp2_with fail
        go_loopw [32, 5] (fun j l wi => ∃ m : Nat, m ≤ ps.length ∧ j = .int .i64 m ∧ Hid (OwnS w1.heap.size l (allP (vs.take k) ++ keepP (ps.take m)) wi ∧ Sep l qa ps.length ∧ Rd qa ps.length 1 (strsV ps) wi) ∧ Below w1.heap.size w1 wi) (fun j _ _ => ps.length - (intOf j).toNat)
        case atStart => exact ⟨0, Nat.zero_le _, rfl, hst, hbc⟩
        case round =>
          clear hst hbc
          obtain ⟨m, hm, rfl, HI, hbi⟩ := hrel
          by_cases hlm : m < ps.length
          · obtain ⟨b2, o2, rfl, hl2, c2⟩ := HI.out.2.2.str_at (k := m) hlm
            have hks := keepP_snoc (ps.take m) ps[m]
            rw [← take_snocL ps m hlm] at hks
            have hkl := keepP_le (ps.take m)
            rw [List.length_take] at hkl
            have hcount : (allP (vs.take k) ++ keepP (ps.take m)).length ≤ 1000000000 := by rw [List.length_append]; omega
            generalize ps[m] = p at *
            cases he : p.isEmpty
            · rw [he, if_neg (by decide)] at hks
              have HK := Lib.hid hks; clear hks
              go_wp2_with (at_builtin; refine app_str w1.heap.size p HI.out.1 hbi.size hcount rfl _ _ rfl rfl rfl ?_)
              intro v' w3 hO3 hb4 hfar
              have hbn := hbi.trans hb4
              have HI2 : Hid (OwnS w1.heap.size v' (allP (vs.take k) ++ keepP (ps.take (m + 1))) w3 ∧ Sep v' (some ⟨b2, o2, none⟩) ps.length ∧ Rd (some ⟨b2, o2, none⟩) ps.length 1 (strsV ps) w3) := by
                obtain ⟨h1, h2⟩ := HI.out.2.2.far hfar HI.out.2.1
                refine Lib.hid ⟨?_, h2, h1⟩
                rw [HK.out]; exact hO3
              clear hO3 hb4 hfar HI HK c2
              go_wp2
              go_roundw
              case rel => exact ⟨m + 1, by omega, by go_num, HI2, hbn⟩
              case measure => simp [intOf]; omega
            · rw [he, if_pos rfl] at hks
              have HI2 : Hid (OwnS w1.heap.size u5 (allP (vs.take k) ++ keepP (ps.take (m + 1))) wr ∧ Sep u5 (some ⟨b2, o2, none⟩) ps.length ∧ Rd (some ⟨b2, o2, none⟩) ps.length 1 (strsV ps) wr) := by
                rw [hks]; exact HI
              clear hks HI
              go_wp2
              go_roundw
              case rel => exact ⟨m + 1, by omega, by go_num, HI2, hbi⟩
              case measure => simp [intOf]; omega
          · have hme : m = ps.length := by omega
            subst hme
            have HO2 : Hid (OwnS w1.heap.size u5 (allP (vs.take (k + 1))) wr) := by
              refine Lib.hid ?_
              have := HI.out.1
              rw [List.take_length, ← Hsn.out] at this; exact this
            clear HI Hsn
            go_wp2
            go_roundw
            case rel => exact ⟨k + 1, by omega, by go_num, HO2, hbi⟩
            case measure => simp [intOf]; omega
    · have hke : k = vs.length := by omega
      subst hke
      have ho := HO.out
      rw [List.take_length] at ho
      obtain ⟨la, lc, rfl⟩ := ho.shape
      have HO1 := Lib.hid ho; clear ho HO
      have hal := allP_le vs
      have htot : total (allP vs) ≤ 1000 * 1000000 := Nat.le_trans (total_allP vs) (Nat.le_trans (total_bound 1000000 vs HVB.out) (Nat.mul_le_mul_right _ hvn))
      have k3 := join_any w1.heap.size lc la (allP vs) ⟨#[44, 32]⟩ wr HO1.out (by omega) (by rw [show (⟨#[44, 32]⟩ : ByteArray).size = 2 from rfl]; omega)
      have K3 := Lib.hid k3; clear k3
      go_wp2_with (go_at_call 25; refine K3.out.mono ?_; rintro e w3 ⟨rfl, hb3⟩)
      go_ret
      exact ⟨rfl, (hb1.trans (hbw.mono hb1.size)).trans (hb3.mono (by have := hb1.size; have := hbw.size; omega))⟩
end Go.Proofs.YtdlajobnnnmojaaDoor
