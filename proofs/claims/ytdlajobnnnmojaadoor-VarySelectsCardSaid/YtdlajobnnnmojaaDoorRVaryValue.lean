/- The walk of the document's Value (layer 15). -/
import Derived.Test.YtdlajobnnnmojaaDoorVarySpec
import Derived.Test.YtdlajobnnnmojaaDoorRValues
import Derived.Test.YtdlajobnnnmojaaDoorSplitR
namespace Go.Proofs.YtdlajobnnnmojaaDoor
open Go.RowKit

theorem str_app (a b : List UInt8) : (⟨a.toArray⟩ : ByteArray) ++ ⟨b.toArray⟩ = ⟨(a ++ b).toArray⟩ := str_eq _ _ (by rw [app_list])
/-- One piece more. -/
theorem val_step (ls : List (List UInt8)) (p : List UInt8) (h : ∀ x ∈ ls, x ≠ []) :
    Lib.join (if p.isEmpty then ls else ls ++ [p]) cs = if p.isEmpty then Lib.join ls cs else if (Lib.join ls cs).isEmpty then p else Lib.join ls cs ++ (cs ++ p) := by
  cases he : p.isEmpty
  · rw [if_neg (by decide), if_neg (by decide), join_snoc, join_empty cs ls h]
  · rfl

set_option maxRecDepth 100000 in
set_option maxHeartbeats 4000000 in
theorem rvvalue_any (A : Option Addr) (n c : Nat) (xs : List Fld) (name : ByteArray) (w : World) (hr : Rd A n 2 (fldsV xs) w) (hn : n ≤ 1000) (hs : ∀ f ∈ xs, f.1.length ≤ 1000000 ∧ f.2.length ≤ 1000000) (hname : name.size ≤ 1000000) :
    Calls Tryd.prog 34 #[.slice A n c, .string name] w fun e w' => e = .returned (.string ⟨(valueL xs name.data.toList).toArray⟩) ∧ Below w.heap.size w w' := by
  have k0 := rvalues_any A n c xs name w hr (by omega) (fun f hf => (hs f hf).1) hname
  have hvl := valuesL_le xs name.data.toList
  have hxn := hr.fld
  have hvb : ∀ v ∈ valuesL xs name.data.toList, v.length ≤ 1000000 := by
    intro v hv
    obtain ⟨f, hf, e⟩ := valuesL_mem hv
    rw [← e]; exact (hs f hf).2
  unfold valueL
  have hvn : (valuesL xs name.data.toList).length ≤ 1000 := by omega
  clear hvl hxn hr hs
  generalize valuesL xs name.data.toList = vs at *
  have hbound : ∀ k (ps : List (List UInt8)), total ps ≤ 1000000 → ps.length ≤ 64 → (Lib.join (allP (vs.take k) ++ keepP ps) cs).length ≤ 2000000000 := by
    intro k ps h1 h2
    have a1 := join_le cs (allP (vs.take k) ++ keepP ps)
    have a2 := total_allP (vs.take k)
    have a3 := total_bound 1000000 (vs.take k) (fun x hx => hvb x (List.mem_of_mem_take hx))
    have a4 := total_keepP ps
    have a5 := allP_le (vs.take k)
    have a6 := keepP_le ps
    have a7 : (vs.take k).length ≤ 1000 := by rw [List.length_take]; omega
    have a8 : (vs.take k).length * 1000000 ≤ 1000 * 1000000 := Nat.mul_le_mul_right _ a7
    rw [total_app, List.length_append] at a1
    have e : cs.length = 2 := rfl
    rw [e] at a1
    omega
  have K0 := Lib.hid k0; have HVB := Lib.hid hvb; have HBD := Lib.hid hbound; clear k0 hvb hbound
  go_enter Tryd.func34, Tryd.ntmps34
  go_wp2_with fail
  refine K0.out.mono ?_
  rintro e w1 ⟨va, vc, rfl, ho1, hb1⟩
  have HV := Lib.hid ho1.rd.2
  have hB1 := Below.refl w1.heap.size w1
  clear ho1
  go_wp2_with fail
  go_loopw [7, 5] (fun i l wr => ∃ (k : Nat) (L : List UInt8), k ≤ vs.length ∧ i = .int .i64 k ∧ l = .string ⟨L.toArray⟩ ∧ Hid (L = Lib.join (allP (vs.take k)) cs) ∧ Below w1.heap.size w1 wr) (fun i _ _ => vs.length - (intOf i).toNat)
  case atStart => exact ⟨0, [], Nat.zero_le _, rfl, rfl, Lib.hid rfl, hB1⟩
  case round =>
    clear hB1
    obtain ⟨k, L, hk, rfl, rfl, HL, hbw⟩ := hrel
    by_cases hlt : k < vs.length
    · obtain ⟨b, o, rfl, hl, c1⟩ := (HV.out.below hbw).str_at (k := k) hlt
      have hv := HVB.out vs[k] (List.getElem_mem _)
      have hsn := allP_snoc (vs.take k) vs[k]
      rw [← take_snocL vs k hlt] at hsn
      generalize vs[k] = v at *
      have hpl := piecesOf_le v
      have hpt := Nat.le_trans (total_pieces v) hv
      have k1 := fun w => rsplit_any ⟨v.toArray⟩ 44 w (by rw [Lib.size_eq]; exact hv)
      have k2 := fun w => rtrim_any ⟨v.toArray⟩ w (by rw [Lib.size_eq]; exact hv)
      simp only at k1 k2
      have hpo : piecesOf v = bif (splitL 44 v).2 == 0 then (splitL 44 v).1 else [trimL v] := rfl
      generalize splitL 44 v = r at *
      generalize trimL v = tv at *
      generalize piecesOf v = ps at *
      obtain ⟨ls, er⟩ := r
      simp only at hpo
      have K1 := Lib.hid k1; have K2 := Lib.hid k2; have HP := Lib.hid hpo; have Hsn := Lib.hid hsn
      clear k1 k2 hpo hsn hv
      go_wp2_with fail
      refine (K1.out _).mono ?_
      rintro e w2 ⟨pa, pc, rfl, ho2, hb2⟩
      have hb12 := hbw.trans (hb2.mono hbw.size)
      have hwr2 := hb2.size
      have HO2 := Lib.hid ho2; clear ho2
      have c2 := (hb2.cell (p := ⟨b, o + k, none⟩) hl).trans c1
      go_upto_if 29 with (fail)
      go_cut [8] (fun s8 wx => ∃ pa pc, s8 = .slice pa ps.length pc ∧ Hid (Rd pa ps.length 1 (strsV ps) wx) ∧ Below w2.heap.size w2 wx)
      case first =>
        cases he : (er == 0)
        · have n1 : (er != 0) = true := by simp [bne, he]
          have hps := HP.out
          rw [he, cond_false] at hps
          have HPS := Lib.hid hps; clear hps HP
          go_wp2_with (go_at_call 46; refine (K2.out _).mono ?_; rintro e w3 ⟨rfl, rfl⟩)
          go_meet
          rw [HPS.out]
          refine ⟨_, _, rfl, Lib.hid ⟨rfl, fun _ => ⟨_, _, rfl, by simp, fun j u hu => ?_⟩⟩, (Below.refl _ w2).alloc (Nat.le_refl _) _⟩
          rw [Nat.zero_add, World.cell?_alloc_mark]
          simpa [strsV] using hu
        · have n1 : (er != 0) = false := by simp [bne, he]
          have hps := HP.out
          rw [he, cond_true] at hps
          have HPS := Lib.hid hps; clear hps HP
          go_wp2
          go_meet
          rw [HPS.out]
          exact ⟨_, _, rfl, Lib.hid HO2.out.rd.2, Below.refl _ _⟩
      case rest =>
        obtain ⟨qa, qc, rfl, HQ, hb3⟩ := hcut
        have hbc := hb12.trans (hb3.mono (by have := hbw.size; omega))
        clear HO2 HP K1 K2 hb3 hb2 hb12 hwr2 c2
        go_wp2_with fail
        go_loop [10, 5] (fun j l => ∃ (m : Nat) (M : List UInt8), m ≤ ps.length ∧ j = .int .i64 m ∧ l = .string ⟨M.toArray⟩ ∧ Hid (M = Lib.join (allP (vs.take k) ++ keepP (ps.take m)) cs)) (fun j _ => ps.length - (intOf j).toNat)
        case atStart => exact ⟨0, L, Nat.zero_le _, rfl, rfl, by have h := HL.out; refine Lib.hid ?_; rw [h]; show _ = Lib.join (_ ++ []) _; rw [List.append_nil]⟩
        case round =>
          obtain ⟨m, M, hm, rfl, rfl, HM⟩ := hrel
          by_cases hlm : m < ps.length
          · obtain ⟨b2, o2, rfl, hl2, c2⟩ := HQ.out.str_at (k := m) hlm
            have hks := keepP_snoc (ps.take m) ps[m]
            rw [← take_snocL ps m hlm] at hks
            have hvs := val_step (allP (vs.take k) ++ keepP (ps.take m)) ps[m] (by
              intro x hx
              rcases List.mem_append.1 hx with h | h
              · exact allP_ne _ x h
              · exact keepP_ne _ x h)
            rw [← HM.out] at hvs
            have hMl : M.length ≤ 2000000000 := by
              rw [HM.out]
              refine HBD.out k (ps.take m) (Nat.le_trans ?_ hpt) (by rw [List.length_take]; omega)
              conv => rhs; rw [← List.take_append_drop m ps]
              rw [total_app]; omega
            have hpm : ps[m].length ≤ 1000000 := Nat.le_trans (total_mem (List.getElem_mem _)) hpt
            have hstep : Lib.join (allP (vs.take k) ++ keepP (ps.take (m + 1))) cs = if ps[m].isEmpty then M else if M.isEmpty then ps[m] else M ++ (cs ++ ps[m]) := by
              rw [← hvs, hks]
              cases ps[m].isEmpty
              · rw [if_neg (by decide), if_neg (by decide), List.append_assoc]
              · rfl
            generalize ps[m] = p at *
            have HST := Lib.hid hstep
            clear hks hvs hstep HM
            cases he : p.isEmpty
            · cases hM : M.isEmpty
              · have hst := HST.out
                rw [he, hM, if_neg (by decide), if_neg (by decide)] at hst
                have HS2 := Lib.hid hst.symm
                clear hst HST
                go_wp2
                go_round
                case rel => exact ⟨m + 1, M ++ (cs ++ p), by omega, by go_num, by rw [← List.append_assoc, ← str_app, ← str_app]; rfl, HS2⟩
                case measure => simp [intOf]; omega
              · have hst := HST.out
                rw [he, hM, if_neg (by decide), if_pos rfl] at hst
                have HS2 := Lib.hid hst.symm
                have hMn : M = [] := by simpa using hM
                clear hst HST
                subst hMn
                go_wp2
                go_round
                case rel => exact ⟨m + 1, p, by omega, by go_num, by first | rfl | (rw [str_app]; rfl), HS2⟩
                case measure => simp [intOf]; omega
            · have hst := HST.out
              rw [he, if_pos rfl] at hst
              have HS2 := Lib.hid hst.symm
              have hpn : p = [] := by simpa using he
              have HPN := Lib.hid hpn
              clear hst HST hpn
              go_wp2
              go_round
              case rel => exact ⟨m + 1, M, by omega, by go_num, by rw [HPN.out, str_app, List.append_nil], HS2⟩
              case measure => simp [intOf]; omega
          · have hme : m = ps.length := by omega
            subst hme
            have HL2 : Hid (M = Lib.join (allP (vs.take (k + 1))) cs) := by
              have := HM.out
              rw [List.take_length, ← Hsn.out] at this; exact Lib.hid this
            clear HM Hsn
            go_wp2
            go_roundw
            case rel => exact ⟨k + 1, M, by omega, by go_num, rfl, HL2, hbc⟩
            case measure => simp [intOf]; omega
    · have hke : k = vs.length := by omega
      subst hke
      have hL := HL.out
      rw [List.take_length] at hL
      have HL2 := Lib.hid hL; clear hL HL
      go_wp2
      go_ret
      exact ⟨by rw [← HL2.out]; rfl, hb1.trans (hbw.mono hb1.size)⟩
end Go.Proofs.YtdlajobnnnmojaaDoor
