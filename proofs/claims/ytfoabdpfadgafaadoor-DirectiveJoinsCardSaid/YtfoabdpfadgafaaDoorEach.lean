/- The iterator of directive.each: for every loop body that writes one row. -/
import Derived.Test.YtfoabdpfadgafaaDoorSaid
import Derived.Test.YtfoabdpfadgafaaDoorSplit
import Derived.Test.YtfoabdpfadgafaaDoorKpRow
import Derived.Test.YtfoabdpfadgafaaDoorStaysSpec
import Derived.Test.YtfoabdpfadgafaaDoorOwnD
import Derived.RangeFuncNested
import Derived.RangeFuncBound
import Derived.RangeFuncCalls
import Derived.RangeFuncLeaves
import Derived.RangeFuncBox
import Derived.Shelf.Abstract
import Derived.Shelf.RegionOpen
import Derived.OwnWalkIn
import Derived.TacticsInMore
import Derived.LoopNIn
import Derived.LoopIn
namespace Go.Proofs.YtfoabdpfadgafaaDoor
open Go.RowKit Go.Shelf
set_option maxRecDepth 100000
attribute [local go_sem] Oper.semAt_some

def dirA (d : Dir) : Value := .agg #[.string ⟨d.name.toArray⟩, .string ⟨d.value.toArray⟩, .bool d.has, .string ⟨d.for_.toArray⟩]
theorem dlist_snoc (vs : List (List UInt8)) (k : Nat) (h : k < vs.length) : dlistL (vs.take (k + 1)) = dlistL (vs.take k) ++ (pcsL vs[k]).filterMap saidO := by
  unfold dlistL; rw [List.take_succ_eq_append_getElem h, List.flatMap_append]; simp [dirsOf]
theorem fm_snoc (ps : List (List UInt8)) (m : Nat) (h : m < ps.length) : (ps.take (m + 1)).filterMap saidO = (ps.take m).filterMap saidO ++ (saidO ps[m]).toList := by
  rw [List.take_succ_eq_append_getElem h, List.filterMap_append]
  cases hs : saidO ps[m] <;> simp [hs]

theorem Rd.newS1 (w : World) (l : List UInt8) (T : TypeId) : Rd (some ⟨w.heap.size, 0, none⟩) 1 1 (strsV [l]) (w.alloc (.cells #[.string ⟨l.toArray⟩] T)) := by
  refine ⟨rfl, fun _ => ⟨w.heap.size, 0, rfl, by simp, fun j u hu => ?_⟩⟩
  rw [Nat.zero_add, World.cell?_alloc_mark]
  match j, hu with
  | 0, hu => exact hu
  | j + 1, hu => simp [strsV] at hu
theorem split_few44 (l : List UInt8) : (splitL 44 l).1.length ≤ 64 := by
  unfold splitL
  cases ((44 : UInt8).toNat == 34 || (44 : UInt8).toNat == 92)
  · cases splP 44 false false [] [] l with
    | none => simp [splitE]
    | some ls =>
      simp only [splitE, cond_false]
      cases h : decide (64 < ls.length)
      · simp at h ⊢; exact h
      · simp
  · simp
set_option maxHeartbeats 16000000 in
theorem each1_in (L Bs : Nat) (A : Option Addr) (n c : Nat) (vs : List (List UInt8)) (w : World) (hM : MaxL w) (hL : L < w.heap.size) (hML : 0 ≠ L) (hBs : Bs < w.heap.size) (hbox : w.cell? ⟨Bs, 0, none⟩ = some (.slice A n c)) (hr : Rd A n 1 (strsV vs) w)
    (hA : 0 < n → ∀ b o, A = some ⟨b, o, none⟩ → b < w.heap.size ∧ b ≠ L) (hrow : RowIn w.heap.size L w) (hn : n ≤ 1000000) (hl : ∀ v ∈ vs, v.length ≤ 1000000) (d : Nat) (hd : 1 ≤ d) (l : Nat) (J Jx : List Dir → World → Prop) (W : World) (hW : Below w.heap.size w W) (hJa : AbidesFrom W.heap.size J)
    (hY : ∀ pre x W1, J pre W1 → pre.length < 64 * vs.length → YieldAt Fence.wide (d - 1) Tryd.prog l #[dirA x] W1 fun e W' =>
      (e = .returned (.bool true) ∧ J (pre ++ [x]) W' ∧ KpRow L W1 W') ∨ (e = .returned (.bool false) ∧ Jx (pre ++ [x]) W'))
    (h0 : J [] W) :
    CallsIn Fence.wide d Tryd.prog 66 #[.func (.yield l) #[] #[], .pointer (some ⟨Bs, 0, none⟩)] W fun e W' => (∃ v, e = .returned v) ∧ ((∃ ys, ys = dlistL vs ∧ J ys W') ∨ (∃ pre, True ∧ Jx pre W')) := by
  obtain rfl := hr.str
  have hb0 : W.cell? ⟨Bs, 0, none⟩ = some (.slice A vs.length c) := (hW.cell (p := ⟨Bs, 0, none⟩) hBs).trans hbox
  have hk0 : KeepC w.heap.size L w W := (KeepC.refl _ _ w).below hW (Nat.le_refl _)
  have hr0 : RowIn w.heap.size L W := hrow.below hW hL
  have hJb : ∀ pre W1 W2, J pre W1 → Below W1.heap.size W1 W2 → J pre W2 := fun pre W1 W2 h1 h2 => hJa pre W1 W2 none h1 (below_grown h2) (fun r e => by cases e)
  have HM := Lib.hid hM; have HR := Lib.hid hr; have HA := Lib.hid hA; have HL := Lib.hid hl; have HY := Lib.hid hY; have HJB := Lib.hid hJb; have HK0 := Lib.hid hk0; have HR0 := Lib.hid hr0
  clear hM hr hA hl hY hJb hk0 hr0 hJa hrow
  refine callsIn_of_wp Tryd.func66 rfl trivial ?_ rfl
  simp only [Tryd.ntmps66, List.size_toArray, List.length_cons, List.length_nil, Nat.reduceAdd, Nat.reduceSub, Array.replicate_succ, Array.replicate_zero, List.push_toArray, List.append_toArray, List.nil_append, List.cons_append]
  gi_wp2
  gi_loopw [13] (fun i wr => ∃ (k : Nat) (pre : List Dir), k ≤ vs.length ∧ i = .int .i64 k ∧ Hid (pre = dlistL (vs.take k)) ∧ pre.length ≤ 64 * k ∧ J pre wr ∧ Hid (KeepC w.heap.size L w wr) ∧ Hid (RowIn w.heap.size L wr) ∧ w.heap.size ≤ wr.heap.size) (fun i _ => vs.length - (intOf i).toNat)
  case atStart => exact ⟨0, [], Nat.zero_le _, rfl, Lib.hid rfl, by simp, h0, HK0, HR0, hW.size⟩
  case round =>
    clear HK0 HR0 h0
    obtain ⟨k, pre, hk, rfl, HPre, hpl, hJs, HK, HRow, hsz⟩ := hrel
    have hLs : L < wr.heap.size := by omega
    by_cases hlt : k < vs.length
    · have hrd := HR.out.keepC HK.out hsz HA.out
      obtain ⟨b, o, rfl, hlb, c1⟩ := hrd.str_at (k := k) hlt
      have hv := HL.out vs[k] (List.getElem_mem _)
      have hsn := dlist_snoc vs k hlt
      generalize vs[k] = v at *
      have k2 := split_any ⟨v.toArray⟩ 44 wr (by rw [Lib.size_eq]; exact hv)
      simp only at k2
      have hfew : (splitL 44 v).1.length ≤ 64 := split_few44 v
      have hpt := split_total 44 v
      have hpc : pcsL v = bif (splitL 44 v).2 == 0 then (splitL 44 v).1 else [noStore] := rfl
      generalize pcsL v = ps0 at *
      generalize splitL 44 v = r at *
      obtain ⟨ps, er⟩ := r
      simp only at hfew hpt hpc
      have K2 := Lib.hid k2
      cases hz : (er == 0)
      · rw [hz, cond_false] at hpc
        subst hpc
        have n0 : (er != 0) = true := by simp [bne, hz]
        have HSN := Lib.hid hsn
        have HPL : Hid (∀ p ∈ [noStore], p.length ≤ 1000000) := Lib.hid (by intro p hp; simp at hp; subst hp; decide)
        clear hsn k2 hrd hz hpt hfew hv
        gi_wp2_with (refine ⟨trivial, ?_⟩; gi_at_call 53; refine (callsIn_wide.2 K2.out).mono ?_; rintro e w3 ⟨a3', c3', rfl, ho3, hb3⟩; simp only)
        have h4 := hb3.alloc hb3.size (.cells #[.string ⟨#[110, 111, 45, 115, 116, 111, 114, 101]⟩] 9)
        have hrd4 : Rd (some ⟨w3.heap.size, 0, none⟩) 1 1 (strsV [noStore]) (w3.alloc (.cells #[.string ⟨#[110, 111, 45, 115, 116, 111, 114, 101]⟩] 9)) := Rd.newS1 w3 noStore 9
        have HP3 := Lib.hid (And.intro hrd4 (Apart.new h4 HRow.out hLs hrd4 (fun b o e => by cases e; exact hb3.size)))
        have hJ3 := HJB.out pre _ _ hJs h4
        have HK3 := Lib.hid (HK.out.below h4 hsz)
        have HR3 := Lib.hid (HRow.out.below h4 hLs)
        have hs3 := Nat.le_trans hsz h4.size
        clear ho3 hb3 hrd4 K2 c1 HK HRow hJs h4
        generalize (w3.alloc (.cells #[.string ⟨#[110, 111, 45, 115, 116, 111, 114, 101]⟩] 9)) = w4 at *
        generalize w3.heap.size = g3 at *
        obtain ⟨wo, hwo⟩ : ∃ wo : World, wo = wr := ⟨_, rfl⟩
        clear hLs hsz
        subst hwo
        gi_loopw [27] (fun j wi => ∃ (m : Nat) (pre : List Dir), m ≤ 1 ∧ j = .int .i64 m ∧ Hid (pre = dlistL (vs.take k) ++ ([noStore].take m).filterMap saidO) ∧ pre.length ≤ 64 * k + m ∧ J pre wi ∧ Hid (KeepC w.heap.size L w wi) ∧ Hid (RowIn w.heap.size L wi) ∧ w.heap.size ≤ wi.heap.size ∧ Hid (Rd (some ⟨g3, 0, none⟩) 1 1 (strsV [noStore]) wi ∧ Apart L (some ⟨g3, 0, none⟩) 1 wi)) (fun j _ => 1 - (intOf j).toNat)
        case atStart => exact ⟨0, pre, Nat.zero_le _, rfl, by show _ = _; rw [HPre.out]; simp, by omega, hJ3, HK3, HR3, hs3, HP3⟩
        case round =>
          clear HK3 HR3 HP3 hJ3 hs3 HPre hpl
          obtain ⟨m, pre, hm, rfl, HPre, hpl, hJs, HK, HRow, hsz, HP⟩ := hrel
          have hLs : L < wr.heap.size := by omega
          by_cases hlm : m < 1
          · obtain ⟨b2, o2, hab, hl2, c2⟩ := HP.out.1.str_at (k := m) hlm
            have hpp := HPL.out (([noStore] : List (List UInt8))[m]'hlm) (List.getElem_mem _)
            have hfm := fm_snoc [noStore] m hlm
            have hM1 : MaxL wr := by
              obtain ⟨g1, mm, g2⟩ := HM.out
              exact ⟨by omega, mm, HK.out _ 0 _ g1 hML g2⟩
            generalize (([noStore] : List (List UInt8))[m]'hlm) = p at *
            have k1 := said_any ⟨p.toArray⟩ wr hM1 (by rw [Lib.size_eq]; exact hpp)
            simp only at k1
            clear hM1
            cases hab
            rw [Nat.zero_add] at c2
            cases hs : saidO p with
            | none =>
              rw [hs] at k1 hfm
              unfold saidV at k1
              have hnx : pre = dlistL (vs.take k) ++ ([noStore].take (m + 1)).filterMap saidO := by rw [HPre.out, hfm]; simp
              have HNX := Lib.hid hnx; have K1 := Lib.hid k1
              clear hnx k1 hfm hs HPre
              gi_wp2_with (refine ⟨trivial, ?_⟩; gi_at_call 67; refine (callsIn_wide.2 K1.out).mono ?_; rintro e w5 ⟨rfl, hb5⟩)
              have h6 := hb5.alloc hb5.size (.cells #[.string ⟨#[]⟩, .string ⟨#[]⟩, .bool false, .string ⟨#[]⟩] 29)
              have hJ6 := HJB.out pre _ _ hJs h6
              have HK6 := Lib.hid (HK.out.below h6 hsz)
              have HR6 := Lib.hid (HRow.out.below h6 hLs)
              have HP6 := Lib.hid (And.intro (HP.out.1.below h6) (HP.out.2.below h6 hLs))
              have hs6 := Nat.le_trans hsz h6.size
              clear HK HRow HP c2 K1
              refine ⟨fun _ h => (by cases h), ?_⟩
              gi_wp2
              go_roundw
              case rel => exact ⟨m + 1, pre, by omega, by go_num, HNX, by omega, hJ6, HK6, HR6, hs6, HP6⟩
              case measure => simp [intOf]; omega
            | some dd =>
              rw [hs] at k1 hfm
              have hnx : pre ++ [dd] = dlistL (vs.take k) ++ ([noStore].take (m + 1)).filterMap saidO := by rw [HPre.out, hfm]; simp
              have k2 : Calls Tryd.prog 67 #[.string ⟨p.toArray⟩] wr fun e w' => e = .returned (.tuple #[.agg #[.string ⟨dd.name.toArray⟩, .string ⟨dd.value.toArray⟩, .bool dd.has, .string ⟨dd.for_.toArray⟩], .bool true]) ∧ Below wr.heap.size wr w' := k1
              have HNX := Lib.hid hnx; have K1 := Lib.hid k2
              have hlt64 : pre.length < 64 * vs.length := by omega
              have hy0 := fun W h => HY.out pre dd W h hlt64
              have HY0 := Lib.hid hy0
              clear hnx k1 k2 hfm hs HPre hy0
              obtain ⟨dn, dv, dh, df⟩ := dd
              unfold dirA at HY0
              simp only at K1
              gi_wp2_with (refine ⟨trivial, ?_⟩; gi_at_call 67; refine (callsIn_wide.2 K1.out).mono ?_; rintro e w5 ⟨rfl, hb5⟩; have h6 := hb5.alloc hb5.size (.cells #[.string ⟨dn.toArray⟩, .string ⟨dv.toArray⟩, .bool dh, .string ⟨df.toArray⟩] 29); obtain ⟨fn, tmps, assign, body, hy, hR⟩ := HY0.out _ (HJB.out pre _ _ hJs h6); dsimp only at hy)
              have HK6 := Lib.hid (HK.out.below h6 hsz)
              have HR6 := Lib.hid (HRow.out.below h6 hLs)
              have HP6 := Lib.hid (And.intro (HP.out.1.below h6) (HP.out.2.below h6 hLs))
              have hs6 := Nat.le_trans hsz h6.size
              refine hR.mono ?_
              rintro e W7 (⟨rfl, hJ7, hk7⟩ | ⟨rfl, hJx7⟩)
              · have HK7 := Lib.hid (HK6.out.kp hk7 HR6.out)
                have HR7 := Lib.hid (HR6.out.kp hk7 hs6)
                have HP7 := Lib.hid (And.intro (hk7.rd HP6.out.1 (fun h b o e => (HP6.out.2 h b o e).2)) (HP6.out.2.kp hk7))
                have hs7 := Nat.le_trans hs6 hk7.1
                clear HK HRow HP c2 K1 HK6 HR6 HP6 hR hy
                gi_wp2
                go_roundw
                case rel => exact ⟨m + 1, pre ++ [⟨dn, dv, dh, df⟩], by omega, by go_num, HNX, by simp; omega, hJ7, HK7, HR7, hs7, HP7⟩
                case measure => simp [intOf]; omega
              · gi_wp2
                refine bodyPost_ret (results_none rfl _ _ _) rfl ?_
                exact ⟨⟨_, rfl⟩, .inr ⟨_, trivial, hJx7⟩⟩
          · have hme : m = 1 := by omega
            subst hme
            have hnx : pre = dlistL (vs.take (k + 1)) := by rw [HSN.out, HPre.out]; rfl
            have HNX := Lib.hid hnx
            clear hnx HP HPL HPre
            gi_wp2
            go_roundw
            case rel => exact ⟨k + 1, pre, by omega, by go_num, HNX, by omega, hJs, HK, HRow, hsz⟩
            case measure => simp [intOf]; omega
      · rw [hz, cond_true] at hpc
        subst hpc
        have n0 : (er != 0) = false := by simp [bne, hz]
        have HSN := Lib.hid hsn
        have HPL : Hid (∀ p ∈ ps0, p.length ≤ 1000000) := Lib.hid (by intro p hp; have := total_mem hp; omega)
        clear hsn k2 hrd hz hpt hv
        gi_wp2_with (refine ⟨trivial, ?_⟩; gi_at_call 53; refine (callsIn_wide.2 K2.out).mono ?_; rintro e w3 ⟨a3, c3, rfl, ho3, hb3⟩; simp only)
        have hrd4 := ho3.rd.2
        have HP3 := Lib.hid (And.intro hrd4 (Apart.new hb3 HRow.out hLs hrd4 (own_new ho3)))
        have hJ3 := HJB.out pre _ _ hJs hb3
        have HK3 := Lib.hid (HK.out.below hb3 hsz)
        have HR3 := Lib.hid (HRow.out.below hb3 hLs)
        have hs3 := Nat.le_trans hsz hb3.size
        clear ho3 hrd4 K2 c1 HK HRow hJs hb3
        obtain ⟨wo, hwo⟩ : ∃ wo : World, wo = wr := ⟨_, rfl⟩
        clear hLs hsz
        subst hwo
        gi_loopw [27] (fun j wi => ∃ (m : Nat) (pre : List Dir), m ≤ ps0.length ∧ j = .int .i64 m ∧ Hid (pre = dlistL (vs.take k) ++ (ps0.take m).filterMap saidO) ∧ pre.length ≤ 64 * k + m ∧ J pre wi ∧ Hid (KeepC w.heap.size L w wi) ∧ Hid (RowIn w.heap.size L wi) ∧ w.heap.size ≤ wi.heap.size ∧ Hid (Rd a3 ps0.length 1 (strsV ps0) wi ∧ Apart L a3 ps0.length wi)) (fun j _ => ps0.length - (intOf j).toNat)
        case atStart => exact ⟨0, pre, Nat.zero_le _, rfl, by show _ = _; rw [HPre.out]; simp, by omega, hJ3, HK3, HR3, hs3, HP3⟩
        case round =>
          clear HK3 HR3 HP3 hJ3 hs3 HPre hpl
          obtain ⟨m, pre, hm, rfl, HPre, hpl, hJs, HK, HRow, hsz, HP⟩ := hrel
          have hLs : L < wr.heap.size := by omega
          by_cases hlm : m < ps0.length
          · obtain ⟨b2, o2, hab, hl2, c2⟩ := HP.out.1.str_at (k := m) hlm
            have hpp := HPL.out ps0[m] (List.getElem_mem _)
            have hfm := fm_snoc ps0 m hlm
            have hM1 : MaxL wr := by
              obtain ⟨g1, mm, g2⟩ := HM.out
              exact ⟨by omega, mm, HK.out _ 0 _ g1 hML g2⟩
            generalize ps0[m] = p at *
            have k1 := said_any ⟨p.toArray⟩ wr hM1 (by rw [Lib.size_eq]; exact hpp)
            simp only at k1
            clear hM1
            subst hab
            cases hs : saidO p with
            | none =>
              rw [hs] at k1 hfm
              unfold saidV at k1
              have hnx : pre = dlistL (vs.take k) ++ (ps0.take (m + 1)).filterMap saidO := by rw [HPre.out, hfm]; simp
              have HNX := Lib.hid hnx; have K1 := Lib.hid k1
              clear hnx k1 hfm hs HPre
              gi_wp2_with (refine ⟨trivial, ?_⟩; gi_at_call 67; refine (callsIn_wide.2 K1.out).mono ?_; rintro e w5 ⟨rfl, hb5⟩)
              have h6 := hb5.alloc hb5.size (.cells #[.string ⟨#[]⟩, .string ⟨#[]⟩, .bool false, .string ⟨#[]⟩] 29)
              have hJ6 := HJB.out pre _ _ hJs h6
              have HK6 := Lib.hid (HK.out.below h6 hsz)
              have HR6 := Lib.hid (HRow.out.below h6 hLs)
              have HP6 := Lib.hid (And.intro (HP.out.1.below h6) (HP.out.2.below h6 hLs))
              have hs6 := Nat.le_trans hsz h6.size
              clear HK HRow HP c2 K1
              refine ⟨fun _ h => (by cases h), ?_⟩
              gi_wp2
              go_roundw
              case rel => exact ⟨m + 1, pre, by omega, by go_num, HNX, by omega, hJ6, HK6, HR6, hs6, HP6⟩
              case measure => simp [intOf]; omega
            | some dd =>
              rw [hs] at k1 hfm
              have hnx : pre ++ [dd] = dlistL (vs.take k) ++ (ps0.take (m + 1)).filterMap saidO := by rw [HPre.out, hfm]; simp
              have k2 : Calls Tryd.prog 67 #[.string ⟨p.toArray⟩] wr fun e w' => e = .returned (.tuple #[.agg #[.string ⟨dd.name.toArray⟩, .string ⟨dd.value.toArray⟩, .bool dd.has, .string ⟨dd.for_.toArray⟩], .bool true]) ∧ Below wr.heap.size wr w' := k1
              have HNX := Lib.hid hnx; have K1 := Lib.hid k2
              have hlt64 : pre.length < 64 * vs.length := by omega
              have hy0 := fun W h => HY.out pre dd W h hlt64
              have HY0 := Lib.hid hy0
              clear hnx k1 k2 hfm hs HPre hy0
              obtain ⟨dn, dv, dh, df⟩ := dd
              unfold dirA at HY0
              simp only at K1
              gi_wp2_with (refine ⟨trivial, ?_⟩; gi_at_call 67; refine (callsIn_wide.2 K1.out).mono ?_; rintro e w5 ⟨rfl, hb5⟩; have h6 := hb5.alloc hb5.size (.cells #[.string ⟨dn.toArray⟩, .string ⟨dv.toArray⟩, .bool dh, .string ⟨df.toArray⟩] 29); obtain ⟨fn, tmps, assign, body, hy, hR⟩ := HY0.out _ (HJB.out pre _ _ hJs h6); dsimp only at hy)
              have HK6 := Lib.hid (HK.out.below h6 hsz)
              have HR6 := Lib.hid (HRow.out.below h6 hLs)
              have HP6 := Lib.hid (And.intro (HP.out.1.below h6) (HP.out.2.below h6 hLs))
              have hs6 := Nat.le_trans hsz h6.size
              refine hR.mono ?_
              rintro e W7 (⟨rfl, hJ7, hk7⟩ | ⟨rfl, hJx7⟩)
              · have HK7 := Lib.hid (HK6.out.kp hk7 HR6.out)
                have HR7 := Lib.hid (HR6.out.kp hk7 hs6)
                have HP7 := Lib.hid (And.intro (hk7.rd HP6.out.1 (fun h b o e => (HP6.out.2 h b o e).2)) (HP6.out.2.kp hk7))
                have hs7 := Nat.le_trans hs6 hk7.1
                clear HK HRow HP c2 K1 HK6 HR6 HP6 hR hy
                gi_wp2
                go_roundw
                case rel => exact ⟨m + 1, pre ++ [⟨dn, dv, dh, df⟩], by omega, by go_num, HNX, by simp; omega, hJ7, HK7, HR7, hs7, HP7⟩
                case measure => simp [intOf]; omega
              · gi_wp2
                refine bodyPost_ret (results_none rfl _ _ _) rfl ?_
                exact ⟨⟨_, rfl⟩, .inr ⟨_, trivial, hJx7⟩⟩
          · have hme : m = ps0.length := by omega
            subst hme
            have hnx : pre = dlistL (vs.take (k + 1)) := by rw [HSN.out, HPre.out]; rw [List.take_length]
            have HNX := Lib.hid hnx
            clear hnx HP HPL HPre
            gi_wp2
            go_roundw
            case rel => exact ⟨k + 1, pre, by omega, by go_num, HNX, by omega, hJs, HK, HRow, hsz⟩
            case measure => simp [intOf]; omega
    · have hke : k = vs.length := by omega
      subst hke
      have hnx : pre = dlistL vs := by rw [HPre.out, List.take_length]
      clear HK HRow HPre
      gi_wp2
      go_end0
      exact ⟨⟨_, rfl⟩, .inl ⟨pre, hnx, hJs⟩⟩
end Go.Proofs.YtfoabdpfadgafaaDoor
