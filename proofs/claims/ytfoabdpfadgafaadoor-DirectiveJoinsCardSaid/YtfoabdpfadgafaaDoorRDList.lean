/- The walk of the document's List (layer 11). -/
import Derived.Test.YtfoabdpfadgafaaDoorSay
import Derived.Test.YtfoabdpfadgafaaDoorOwnD
import Derived.Test.YtfoabdpfadgafaaDoorSplitR
import Derived.Test.YtfoabdpfadgafaaDoorSplitFew
import Derived.Test.YtfoabdpfadgafaaDoorStaysSpec
namespace Go.Proofs.YtfoabdpfadgafaaDoor
open Go.RowKit
set_option maxRecDepth 100000

theorem said_noStore : saidO noStore = some ⟨noStore, [], false, []⟩ := by decide
theorem filterMap_le {α β : Type} (f : α → Option β) (l : List α) : (l.filterMap f).length ≤ l.length := List.length_filterMap_le f l
theorem dirsOf_few (v : List UInt8) : (dirsOf v).length ≤ 64 := by
  unfold dirsOf pcsL
  refine Nat.le_trans (filterMap_le _ _) ?_
  cases ((splitL 44 v).2 == 0)
  · simp
  · exact split_few 44 v
theorem dlistL_few : ∀ (vs : List (List UInt8)), (dlistL vs).length ≤ 64 * vs.length
  | [] => by simp [dlistL]
  | v :: r => by
    have := dlistL_few r
    have h := dirsOf_few v
    unfold dlistL at *
    rw [List.flatMap_cons, List.length_append, List.length_cons]; omega
theorem dlistL_take (vs : List (List UInt8)) (k : Nat) (h : k < vs.length) : dlistL (vs.take (k + 1)) = dlistL (vs.take k) ++ dirsOf vs[k] := by
  unfold dlistL
  rw [List.take_succ_eq_append_getElem h]
  simp only [List.flatMap_append, List.flatMap_cons, List.flatMap_nil, List.append_nil]
theorem fm_take (ps : List (List UInt8)) (m : Nat) (h : m < ps.length) : (ps.take (m + 1)).filterMap saidO = (ps.take m).filterMap saidO ++ (saidO ps[m]).toList := by
  rw [List.take_succ_eq_append_getElem h, List.filterMap_append]
  congr 1
/-- A row of directives that the call made, beside texts that it reads. -/
def DirSt (B : Nat) (out : Value) (acc : List Dir) (A : Option Addr) (vs : List (List UInt8)) (w : World) : Prop := OwnD B out acc w ∧ Rd A vs.length 1 (strsV vs) w ∧ Sep out A vs.length
theorem DirSt.below {B : Nat} {out : Value} {acc : List Dir} {A : Option Addr} {vs : List (List UInt8)} {w w1 : World} (h : DirSt B out acc A vs w) (hb : Below w.heap.size w w1) : DirSt B out acc A vs w1 := ⟨h.1.below hb, h.2.1.below hb, h.2.2⟩
theorem DirSt.far {B : Nat} {out v' : Value} {acc acc' : List Dir} {A : Option Addr} {vs : List (List UInt8)} {w w1 : World} (h : DirSt B out acc A vs w) (ho : OwnD B v' acc' w1) (hf : Far w w1 out v') : DirSt B v' acc' A vs w1 := ⟨ho, h.2.1.far hf h.2.2⟩
theorem DirSt.beside {B : Nat} {out : Value} {acc : List Dir} {A2 : Option Addr} {ps : List (List UInt8)} {w w1 : World} {c : Nat} (h : OwnD B out acc w) (hb : Below w.heap.size w w1) (hp : OwnS w.heap.size (.slice A2 ps.length c) ps w1) : DirSt B out acc A2 ps w1 := ⟨h.below hb, hp.rd.2, Sep.new h (own_new hp)⟩

set_option maxHeartbeats 16000000 in
theorem rdlist_any (A : Option Addr) (n c : Nat) (vs : List (List UInt8)) (w : World) (hr : Rd A n 1 (strsV vs) w) (hn : n ≤ 10000) (hs : ∀ v ∈ vs, v.length ≤ 1000000) :
    Calls Tryd.prog 17 #[.slice A n c] w (DirsPost w (dlistL vs)) := by
  have hxn := hr.str
  subst hxn
  have hH : dlistL (vs.take vs.length) = dlistL vs := by rw [List.take_length]
  generalize dlistL vs = tot at *
  have hlen : ∀ k, k ≤ vs.length → (dlistL (vs.take k)).length ≤ 64 * 10000 := by
    intro k hk
    have h2 := dlistL_few (vs.take k)
    rw [List.length_take] at h2
    omega
  have h0 : dlistL (vs.take 0) = [] := rfl
  have hstep : ∀ k (h : k < vs.length), dlistL (vs.take (k + 1)) = dlistL (vs.take k) ++ dirsOf vs[k] := dlistL_take vs
  have HLEN := Lib.hid hlen; have HML := Lib.hid hs; have HSTEP := Lib.hid hstep; have HH := Lib.hid hH; have H00 := Lib.hid h0; have HR := Lib.hid hr
  have hB2 := Below.refl w.heap.size w
  clear hlen hstep hH h0 hr hs
  go_enter Tryd.func17, Tryd.ntmps17
  go_wp2_with fail
  go_loopw [4, 3] (fun i out wr => ∃ k : Nat, k ≤ vs.length ∧ i = .int .i64 k ∧ Hid (OwnD w.heap.size out (dlistL (vs.take k)) wr) ∧ Below w.heap.size w wr) (fun i _ _ => vs.length - (intOf i).toNat)
  case atStart => exact ⟨0, Nat.zero_le _, rfl, by rw [H00.out]; exact Lib.hid (OwnD.nil _ _), hB2⟩
  case round =>
    clear hB2 H00
    obtain ⟨k, hk, rfl, HO, hbw⟩ := hrel
    obtain ⟨oa, oc, rfl⟩ := HO.out.shape
    have hal := HLEN.out k hk
    by_cases hlt : k < vs.length
    · obtain ⟨b, o, rfl, hl, c1⟩ := (HR.out.below hbw).str_at (k := k) hlt
      have hst := HSTEP.out k hlt
      have hv := HML.out vs[k] (List.getElem_mem _)
      generalize vs[k] = v at *
      have k2 := fun w => rsplit_any ⟨v.toArray⟩ 44 w (by rw [Lib.size_eq]; exact hv)
      simp only at k2
      have hfew := split_few 44 v
      have hbad := split_bad 44 v
      have hpt := split_total 44 v
      have hdo : dirsOf v = bif (splitL 44 v).2 == 0 then (splitL 44 v).1.filterMap saidO else [⟨noStore, [], false, []⟩] := by
        unfold dirsOf pcsL
        cases ((splitL 44 v).2 == 0)
        · simp only [cond_false, List.filterMap_cons, said_noStore, List.filterMap_nil]
        · rfl
      generalize splitL 44 v = r at *
      obtain ⟨ps, er⟩ := r
      simp only at hst hfew hpt hbad hdo
      have hps : ∀ p ∈ ps, p.length ≤ 1000000 := fun p hp => by have := total_mem hp; omega
      generalize dirsOf v = dv at *
      cases her : (er == 0)
      · have hz : ps = [] := by
          rcases hbad with h | h
          · rw [h] at her; simp at her
          · exact h
        subst hz
        rw [her, cond_false] at hdo
        subst hdo
        have K2 := Lib.hid k2; have HST := Lib.hid hst
        clear k2 hst hv hpt hps hbad hfew HML HLEN
        generalize dlistL (vs.take k) = acc at *
        have hal2 : acc.length ≤ 1000000000 := by omega
        have hne : (er != 0) = true := by simp [bne, her]
        go_wp2_with fail
        refine (K2.out _).mono ?_
        rintro e w3 ⟨a3, c3, rfl, ho3, hb3⟩
        simp only at ho3 ⊢
        have hB3 := hbw.trans (hb3.mono hbw.size)
        have HO3 := Lib.hid (HO.out.below hb3)
        clear ho3 hb3 hbw HO c1 K2
        go_wp2_with (at_builtin; refine app_dir w.heap.size ⟨noStore, [], false, []⟩ HO3.out hB3.size hal2 rfl _ _ rfl rfl rfl ?_)
        intro v' w7 hO7 hb7 hfar7
        have hB7 := hB3.trans hb7
        have HO7 := Lib.hid hO7
        clear hO7 hb7 hfar7 HO3 hB3
        go_wp2_with fail
        obtain ⟨wo, rfl⟩ : ∃ wo : World, wo = wr := ⟨_, rfl⟩
        go_loopw [7, 3] (fun j out wi => j = .int .i64 0 ∧ out = v' ∧ wi = w7) (fun _ _ _ => 0)
        case atStart => exact ⟨rfl, rfl, rfl⟩
        case round =>
          obtain ⟨rfl, rfl, rfl⟩ := hrel
          go_wp2
          go_roundw
          case rel => exact ⟨k + 1, by omega, by go_num, by rw [HST.out]; exact HO7, hB7⟩
          case measure => simp [intOf]; omega
      · rw [her, cond_true] at hdo
        subst hdo
        have hft : ∀ m (h : m < ps.length), (ps.take (m + 1)).filterMap saidO = (ps.take m).filterMap saidO ++ (saidO ps[m]).toList := fm_take ps
        have hfl : ∀ m, m ≤ ps.length → ((ps.take m).filterMap saidO).length ≤ 64 := by
          intro m hm
          have h1 := filterMap_le saidO (ps.take m)
          rw [List.length_take] at h1
          omega
        have hfin : dlistL (vs.take (k + 1)) = dlistL (vs.take k) ++ (ps.take ps.length).filterMap saidO := by rw [List.take_length]; exact hst
        have h0 : dlistL (vs.take k) = dlistL (vs.take k) ++ (ps.take 0).filterMap saidO := by simp
        generalize dlistL (vs.take k) = acc at *
        have hne : (er != 0) = false := by simp [bne, her]
        have K2 := Lib.hid k2; have HPS := Lib.hid hps; have HFT := Lib.hid hft; have HFL := Lib.hid hfl; have HFIN := Lib.hid hfin; have H0 := Lib.hid h0
        clear k2 hst hv hpt hps hft hfl hfin h0 hbad HSTEP HML HLEN
        go_wp2_with fail
        refine (K2.out _).mono ?_
        rintro e w3 ⟨a3, c3, rfl, ho3, hb3⟩
        simp only at ho3 ⊢
        have hB3 := hbw.trans (hb3.mono hbw.size)
        have HP3 := Lib.hid (DirSt.beside HO.out hb3 ho3)
        clear ho3 hb3 hbw HO c1 K2
        go_wp2_with fail
        obtain ⟨wo, rfl⟩ : ∃ wo : World, wo = wr := ⟨_, rfl⟩
        go_loopw [7, 3] (fun j out wi => ∃ m : Nat, m ≤ ps.length ∧ j = .int .i64 m ∧ Hid (DirSt w.heap.size out (acc ++ (ps.take m).filterMap saidO) a3 ps wi) ∧ Below w.heap.size w wi) (fun j _ _ => ps.length - (intOf j).toNat)
        case atStart => exact ⟨0, Nat.zero_le _, rfl, by rw [← H0.out]; exact HP3, hB3⟩
        case round =>
          clear HP3 hB3 H0
          obtain ⟨m, hm, rfl, HP, hbi⟩ := hrel
          obtain ⟨pa, pc, rfl⟩ := HP.out.1.shape
          have hal2 := HFL.out m hm
          by_cases hlm : m < ps.length
          · obtain ⟨b2, o2, rfl, hl2, c2⟩ := HP.out.2.1.str_at (k := m) hlm
            have hpp := HPS.out ps[m] (List.getElem_mem _)
            have hft := HFT.out m hlm
            generalize ps[m] = p at *
            have k4 := fun w => rsay_any ⟨p.toArray⟩ w (by rw [Lib.size_eq]; exact hpp)
            simp only at k4
            generalize saidO p = sd at *
            generalize (ps.take m).filterMap saidO = got at *
            generalize hac : acc ++ got = ac at *
            have hft2 : acc ++ (ps.take (m + 1)).filterMap saidO = ac ++ sd.toList := by rw [hft, ← hac, List.append_assoc]
            have hal3 : ac.length ≤ 1000000000 := by rw [← hac, List.length_append]; omega
            clear hac hft hal2
            have t1 : decide ((m : Int) < (ps.length : Int)) = true := by simp; omega
            cases sd with
            | none =>
              have hn : acc ++ (ps.take (m + 1)).filterMap saidO = ac := by rw [hft2]; simp
              have HN := Lib.hid hn
              have K4 : Hid (∀ w, Calls Tryd.prog 39 #[.string ⟨p.toArray⟩] w fun e w' => e = .returned (.tuple #[.agg #[.string ⟨#[]⟩, .string ⟨#[]⟩, .bool false, .string ⟨#[]⟩], .bool false]) ∧ Below w.heap.size w w') := Lib.hid k4
              clear hn hft2 k4 hpp
              go_wp2_with fail
              refine (K4.out _).mono ?_
              rintro e w4 ⟨rfl, hb4⟩
              have hbA := (Below.refl w4.heap.size w4).alloc (Nat.le_refl _) (.cells #[.string ⟨#[]⟩, .string ⟨#[]⟩, .bool false, .string ⟨#[]⟩] 29)
              have hb5 := bt hb4 hbA
              have hB5 := hbi.trans (hb5.mono hbi.size)
              have HP5 := Lib.hid (HP.out.below hb5)
              clear HP hb4 hbA hb5 c2
              go_wp2
              go_roundw
              case rel => exact ⟨m + 1, by omega, by go_num, by rw [HN.out]; exact HP5, hB5⟩
              case measure => simp [intOf]; omega
            | some d =>
              obtain ⟨dn, dv, dh, df⟩ := d
              have hn : acc ++ (ps.take (m + 1)).filterMap saidO = ac ++ [⟨dn, dv, dh, df⟩] := by rw [hft2]; rfl
              have HN := Lib.hid hn
              have K4 : Hid (∀ w, Calls Tryd.prog 39 #[.string ⟨p.toArray⟩] w fun e w' => e = .returned (.tuple #[.agg #[.string ⟨dn.toArray⟩, .string ⟨dv.toArray⟩, .bool dh, .string ⟨df.toArray⟩], .bool true]) ∧ Below w.heap.size w w') := Lib.hid k4
              clear hn hft2 k4 hpp
              go_wp2_with fail
              refine (K4.out _).mono ?_
              rintro e w4 ⟨rfl, hb4⟩
              have hbA := (Below.refl w4.heap.size w4).alloc (Nat.le_refl _) (.cells #[.string ⟨dn.toArray⟩, .string ⟨dv.toArray⟩, .bool dh, .string ⟨df.toArray⟩] 29)
              have hb5 := bt hb4 hbA
              have hB5 := hbi.trans (hb5.mono hbi.size)
              have HP5 := Lib.hid (HP.out.below hb5)
              clear HP hb4 hbA hb5 c2
              have h4 := at4_alloc w4 (.string ⟨dn.toArray⟩) (.string ⟨dv.toArray⟩) (.bool dh) (.string ⟨df.toArray⟩) 29
              go_upto_region 12 with (fail)
              generalize w4.alloc (.cells #[.string ⟨dn.toArray⟩, .string ⟨dv.toArray⟩, .bool dh, .string ⟨df.toArray⟩] 29) = W5 at *
              obtain ⟨x0, x1, x2, x3, y0, y1, y2, y3, xz⟩ := h4
              go_wp2_with (at_builtin; refine app_dir w.heap.size ⟨dn, dv, dh, df⟩ HP5.out.1 hB5.size hal3 rfl _ _ rfl rfl rfl ?_)
              intro v' w7 hO7 hb7 hfar7
              have hB7 := hB5.trans hb7
              have HP7 : Hid (DirSt w.heap.size v' (acc ++ (ps.take (m + 1)).filterMap saidO) (some ⟨b2, o2, none⟩) ps w7) := by rw [HN.out]; exact Lib.hid (HP5.out.far hO7 hfar7)
              clear hO7 hb7 hfar7 HP5
              go_wp2
              go_roundw
              case rel => exact ⟨m + 1, by omega, by go_num, HP7, hB7⟩
              case measure => simp [intOf]; omega
          · have hme : m = ps.length := by omega
            subst hme
            have hfin := HFIN.out
            clear HFT HFL HFIN
            generalize acc ++ (ps.take ps.length).filterMap saidO = ac at *
            have HN : Hid (OwnD w.heap.size (.slice pa ac.length pc) (dlistL (vs.take (k + 1))) wr) := by rw [hfin]; exact Lib.hid HP.out.1
            clear hfin
            have t1 : decide ((ps.length : Int) < (ps.length : Int)) = false := by simp
            clear HP HPS
            go_wp2
            go_roundw
            case rel => exact ⟨k + 1, by omega, by go_num, HN, hbi⟩
            case measure => simp [intOf]; omega
    · have hke : k = vs.length := by omega
      subst hke
      have hfin := HH.out
      clear HSTEP HML HLEN HH
      generalize dlistL (vs.take vs.length) = q at *
      subst hfin
      go_wp2
      go_ret
      exact ⟨oa, oc, rfl, HO.out, hbw⟩
end Go.Proofs.YtfoabdpfadgafaaDoor
