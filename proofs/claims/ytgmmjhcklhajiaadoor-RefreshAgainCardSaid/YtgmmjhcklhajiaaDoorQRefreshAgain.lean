/- Joined out of the texts RefWith2, SameF04, Same20, Few20, Texts04, RefreshAgain, AgainLaw (wip/tools/merge.py). -/
import Derived.Test.YtgmmjhcklhajiaaDoorPa4
import Derived.Deep.RegionHeld3
import Derived.IntWalk
import Derived.Deep.QuietTactic
import Derived.BigQuiet
import Derived.WalkSmall
/- The walk of refresh.With, for longer lists (out of XRefWith by wip/tools/again20.py). -/
namespace Go.Proofs.YtgmmjhcklhajiaaDoor
open Go.RowKit
set_option maxRecDepth 100000

set_option maxHeartbeats 16000000 in
theorem with2_any (st mi asked got rst rmi t0 t1 : Int) (re bo rre rbo : ByteArray) (A V R : Option Addr) (n c m d k l : Nat) (xs vs rep : List Fld) (w : World) (hr : Rd A n 2 (fldsV xs) w) (hv : Rd V m 2 (fldsV vs) w) (hq : Rd R k 2 (fldsV rep) w) (hn : n ≤ 200) (hs : sumF xs ≤ 13000) (hm : m ≤ 100) (hk : k ≤ 100) (hsq : sumF rep ≤ 7000) :
    Calls Tryd.prog 7 #[entV st re mi A n c bo asked got V m d, .agg #[.int .i64 rst, .string rre, .int .i64 rmi, .slice R k l, .string rbo], .int .i64 t0, .int .i64 t1] w (EntPost w st re mi (withL xs rep) bo t0 t1 vs) := by
  obtain rfl := hr.fld; obtain rfl := hv.fld; obtain rfl := hq.fld
  obtain ⟨W1, hW1⟩ : ∃ W1, w.alloc (.cells #[.int .i64 st, .string re, .int .i64 mi, .slice A xs.length c, .string bo, .int .i64 asked, .int .i64 got, .slice V vs.length d] 26) = W1 := ⟨_, rfl⟩
  have b1 : Below w.heap.size w W1 := by rw [← hW1]; exact (Below.refl w.heap.size w).alloc (Nat.le_refl _) _
  have z1 : W1.heap.size = w.heap.size + 1 := by rw [← hW1]; simp
  have x1 : W1.heap[w.heap.size]? = some (.cells #[.int .i64 st, .string re, .int .i64 mi, .slice A xs.length c, .string bo, .int .i64 asked, .int .i64 got, .slice V vs.length d] 26 (0, 0)) := by rw [← hW1]; exact heap_new w _ _ rfl
  obtain ⟨W2, hW2⟩ : ∃ W2, W1.alloc (.cells #[.int .i64 rst, .string rre, .int .i64 rmi, .slice R rep.length l, .string rbo] 24) = W2 := ⟨_, rfl⟩
  have b2 : Below W1.heap.size W1 W2 := by rw [← hW2]; exact (Below.refl _ W1).alloc (Nat.le_refl _) _
  have z2 : W2.heap.size = w.heap.size + 2 := by rw [← hW2]; simp [z1]
  have x2 : W2.heap[w.heap.size + 1]? = some (.cells #[.int .i64 rst, .string rre, .int .i64 rmi, .slice R rep.length l, .string rbo] 24 (0, 0)) := by rw [← hW2]; exact heap_new W1 _ _ z1
  obtain ⟨W3, hW3⟩ : ∃ W3, W2.alloc (.cells #[.int .i64 0, .string ⟨#[]⟩, .int .i64 0, .slice none 0 0, .string ⟨#[]⟩, .int .i64 0, .int .i64 0, .slice none 0 0] 26) = W3 := ⟨_, rfl⟩
  have b3 : Below W2.heap.size W2 W3 := by rw [← hW3]; exact (Below.refl _ W2).alloc (Nat.le_refl _) _
  have z3 : W3.heap.size = w.heap.size + 3 := by rw [← hW3]; simp [z2]
  have x3 : W3.heap[w.heap.size + 2]? = some (.cells #[.int .i64 0, .string ⟨#[]⟩, .int .i64 0, .slice none 0 0, .string ⟨#[]⟩, .int .i64 0, .int .i64 0, .slice none 0 0] 26 (0, 0)) := by rw [← hW3]; exact heap_new W2 _ _ z2
  have y1 := (b3.block _ (by omega)).trans ((b2.block _ (by omega)).trans x1)
  have y2 := (b3.block _ (by omega)).trans x2
  have hB3 : Below w.heap.size w W3 := bt (bt b1 b2) b3
  have k1 := hop_any R rep.length l rep W3 (hq.below hB3) (by omega) (by omega)
  have hhl := hopL_le rep
  have hhm := hopL_mem rep (by omega)
  have hbl := bringsL_le rep
  have k2 := fun W (hb : Below w.heap.size w W) a c' (h : Rd a (hopL rep ++ own5).length 1 (strsV (hopL rep ++ own5)) W) => del_any R rep.length l rep a (hopL rep ++ own5).length c' (hopL rep ++ own5) W (hq.below hb) (by omega) (fun f hf => by have := sumF_mem hf; omega) h (by rw [List.length_append]; have : own5.length = 5 := rfl; omega)
    (fun l' hl' => by
      rcases List.mem_append.1 hl' with h' | h'
      · exact hhm l' h'
      · have := (show ∀ x ∈ own5, x.length ≤ 1000000 by decide) l' h'; exact this)
  have hbm : ∀ f ∈ bringsL rep, f.1.length ≤ 7000 := fun f hf => by have := sumF_mem (delL_mem hf); omega
  have k3 := fun W (hb : Below w.heap.size w W) a c' (ns : List (List UInt8)) (hns : ns = dated2 ++ (bringsL rep).map (·.1)) (h : Rd a ns.length 1 (strsV ns) W) => del_any A xs.length c xs a ns.length c' ns W (hr.below hb) (by omega) (fun f hf => by have := sumF_mem hf; omega) h (by rw [hns, List.length_append, List.length_map]; have : dated2.length = 2 := rfl; omega)
    (fun l' hl' => by
      rw [hns] at hl'
      rcases List.mem_append.1 hl' with h' | h'
      · have := (show ∀ x ∈ dated2, x.length ≤ 1000000 by decide) l' h'; exact this
      · obtain ⟨f, hf, rfl⟩ := List.mem_map.1 h'
        have := hbm f hf; omega)
  have hwl : withL xs rep = delL xs (dated2 ++ (bringsL rep).map (·.1)) ++ bringsL rep := rfl
  have hdl := delL_le xs (dated2 ++ (bringsL rep).map (·.1))
  rw [hwl]
  have hbr : delL rep (hopL rep ++ own5) = bringsL rep := rfl
  rw [hbr] at k2
  have HV := Lib.hid (fun W (hb : Below w.heap.size w W) => hv.below hb)
  have K1 := Lib.hid k1; have K2 := Lib.hid k2; have K3 := Lib.hid k3
  have HW1 := Lib.hid hW1; have HW2 := Lib.hid hW2; have HW3 := Lib.hid hW3
  have Y1 := Lib.hid y1; have Y2 := Lib.hid y2; have Y3 := Lib.hid x3; have Z3 := Lib.hid z3; have HB3 := Lib.hid hB3
  have r1 : W3.cell? ⟨w.heap.size + 1, 3, none⟩ = some (.slice R rep.length l) := (of_heap y2 3).1
  clear k1 k2 k3 hW1 hW2 hW3 y1 y2 x3 z3 hB3 hhm hbm hwl b1 b2 b3 x1 x2 z1 z2 hr hv hq hbr
  unfold entV
  go_enter Tryd.func7, Tryd.ntmps7
  go_wp2_with fail
  rw [HW1.out, HW2.out, HW3.out]
  (with_reducible refine K1.out.mono ?_)
  rintro e w1 ⟨ha, hc, rfl, ho1, hb1⟩
  have hq1 := HB3.out.trans (hb1.mono HB3.out.size)
  have hs1 := hb1.size
  have r2 := (hb1.cell (p := ⟨w.heap.size + 1, 3, none⟩) (by have := Z3.out; show w.heap.size + 1 < W3.heap.size; omega)).trans r1
  have al1 := (Below.refl w1.heap.size w1).alloc (Nat.le_refl _) (.cells (strsV own5).toArray 9)
  have ho2 := ho1.below al1
  have hr2 : Rd (some ⟨w1.heap.size, 0, none⟩) 5 1 (strsV own5) (w1.alloc (.cells (strsV own5).toArray 9)) := (OwnS.new w1 own5 (by decide)).rd.2
  have hlit : (strsV own5).toArray = #[.string ⟨#[99, 111, 110, 116, 101, 110, 116, 45, 108, 101, 110, 103, 116, 104]⟩, .string ⟨#[99, 111, 110, 116, 101, 110, 116, 45, 101, 110, 99, 111, 100, 105, 110, 103]⟩, .string ⟨#[99, 111, 110, 116, 101, 110, 116, 45, 116, 121, 112, 101]⟩, .string ⟨#[99, 111, 110, 116, 101, 110, 116, 45, 114, 97, 110, 103, 101]⟩, .string ⟨#[118, 97, 114, 121]⟩] := rfl
  have hal1 : Below w1.heap.size w1 (w1.alloc (.cells (strsV own5).toArray 9)) := al1
  rw [hlit] at ho2 hr2 hal1
  have HO2 := Lib.hid ho2; have HR2 := Lib.hid hr2; have HAL1 := Lib.hid hal1; have HQ1 := Lib.hid hq1
  have hhn : (hopL rep).length + 5 ≤ 1000000000 := by omega
  clear ho2 hr2 hal1 al1 ho1 hlit hq1 K1 r1
  generalize hopL rep = hp at *
  go_wp2_with (at_builtin; refine app_strs W3.heap.size HO2.out (by simp; omega) HR2.out hhn rfl _ _ rfl rfl rfl ?_)
  intro v2 w2 hO2 hb2 hfar2
  obtain ⟨a2, c2, rfl⟩ := hO2.shape
  have hB2 : Below w.heap.size w w2 := HQ1.out.trans ((HAL1.out.mono HQ1.out.size).trans (hb2.mono (by have := Z3.out; omega)))
  have hB23 : Below W3.heap.size W3 w2 := hb1.trans ((HAL1.out.mono hs1).trans hb2)
  have r3 := (hb2.cell (p := ⟨w.heap.size + 1, 3, none⟩) (by have := Z3.out; show w.heap.size + 1 < W3.heap.size; omega)).trans ((HAL1.out.cell (p := ⟨w.heap.size + 1, 3, none⟩) (by have := Z3.out; show w.heap.size + 1 < w1.heap.size; omega)).trans r2)
  have k4 := K2.out w2 hB2 _ c2 hO2.rd.2
  rw [List.length_append] at k4
  have K4 := Lib.hid k4
  have HB2 := Lib.hid hB2; have HB23 := Lib.hid hB23
  clear hO2 hb2 hfar2 hB2 hB23 k4 K2 HO2 HR2 HAL1 HQ1 hb1 r2
  go_wp2_with fail
  (with_reducible refine K4.out.mono ?_)
  rintro e w3 ⟨ba, bc, rfl, ho3, hb3⟩
  have hB4 : Below w.heap.size w w3 := bt HB2.out hb3
  have hB43 : Below W3.heap.size W3 w3 := bt HB23.out hb3
  have hs3 := hB43.size
  have al4 := (Below.refl w3.heap.size w3).alloc (Nat.le_refl _) (.cells (strsV dated2).toArray 9)
  have hd0 : OwnS W3.heap.size (.slice (some ⟨w3.heap.size, 0, none⟩) 2 2) dated2 (w3.alloc (.cells (strsV dated2).toArray 9)) := (OwnS.new w3 dated2 (by decide)).base hs3
  have hbr : OwnF W3.heap.size (.slice ba (bringsL rep).length bc) (bringsL rep) w3 := OwnF.base ho3 (by have := HB23.out.size; omega)
  have hsep : Sep (.slice (some ⟨w3.heap.size, 0, none⟩) 2 2) ba (bringsL rep).length := by
    intro hpos g o e x
    obtain ⟨b, o', e', hl, _⟩ := ho3.rd.2.2 (by rw [(ho3.rd.2).fld] at *; exact hpos)
    rw [e] at e'
    cases e'
    cases x
    exact absurd hl (Nat.lt_irrefl _)
  have hN0 : NmSt W3.heap.size (.slice (some ⟨w3.heap.size, 0, none⟩) 2 2) dated2 ba (bringsL rep) (w3.alloc (.cells (strsV dated2).toArray 9)) := ⟨hd0, ho3.rd.2.below al4, hsep⟩
  have hB5 : Below W3.heap.size W3 (w3.alloc (.cells (strsV dated2).toArray 9)) := bt hB43 al4
  have hlit : (strsV dated2).toArray = #[.string ⟨#[97, 103, 101]⟩, .string ⟨#[100, 97, 116, 101]⟩] := rfl
  have hnames : ∀ k' (h : k' < (bringsL rep).length), dated2 ++ ((bringsL rep).take (k' + 1)).map (·.1) = (dated2 ++ ((bringsL rep).take k').map (·.1)) ++ [(bringsL rep)[k'].1] := by
    intro k' h
    rw [List.take_succ_eq_append_getElem h, List.map_append, List.append_assoc]; rfl
  have hnl : ∀ k', (dated2 ++ ((bringsL rep).take k').map (·.1)).length ≤ 102 := by
    intro k'
    rw [List.length_append, List.length_map, List.length_take]
    have : dated2.length = 2 := rfl
    omega
  have h00 : dated2 ++ ((bringsL rep).take 0).map (·.1) = dated2 := rfl
  rw [hlit] at hN0 hB5
  have HN0 := Lib.hid hN0; have HB5 := Lib.hid hB5; have HNAMES := Lib.hid hnames; have HNL := Lib.hid hnl; have H00 := Lib.hid h00
  clear hN0 hB5 hlit hsep hbr hd0 al4 hB43 hB4 ho3 hb3 K4 hnames hnl h00 HB2 HB23 r3
  have hbf := hbl
  generalize hgb : bringsL rep = brs at *
  have HGB := Lib.hid hgb
  clear hgb
  go_wp2_with fail
  go_loopw [26, 11] (fun i out wr => ∃ k' : Nat, k' ≤ brs.length ∧ i = .int .i64 k' ∧ Hid (NmSt W3.heap.size out (dated2 ++ (brs.take k').map (·.1)) ba brs wr) ∧ Hid (Below W3.heap.size W3 wr)) (fun i _ _ => brs.length - (intOf i).toNat)
  case atStart => exact ⟨0, Nat.zero_le _, rfl, by rw [H00.out]; exact HN0, HB5⟩
  case round =>
    clear HN0 HB5 H00
    obtain ⟨k', hk', rfl, HO, HBW⟩ := hrel
    obtain ⟨oa, oc, rfl⟩ := HO.out.1.shape
    by_cases hlt : k' < brs.length
    · obtain ⟨b, o, rfl, hl, c0, c1⟩ := HO.out.2.1.fld_at (k := k') hlt
      have hst := HNAMES.out k' hlt
      have hll := HNL.out k'
      generalize brs[k'] = f at *
      obtain ⟨fn, fv⟩ := f
      simp only at c0 c1 hst
      obtain ⟨acc, hacc⟩ : ∃ l, dated2 ++ (brs.take k').map (·.1) = l := ⟨_, rfl⟩
      rw [hacc] at HO hll hst
      rw [hacc]
      clear hacc
      have al6 := (Below.refl wr.heap.size wr).alloc (Nat.le_refl _) (.cells #[.string ⟨fn.toArray⟩, .string ⟨fv.toArray⟩] 42)
      have hsw := HBW.out.size
      have hz6 : (wr.alloc (.cells #[.string ⟨fn.toArray⟩, .string ⟨fv.toArray⟩] 42)).heap.size = wr.heap.size + 1 := by simp
      have HO6 := Lib.hid (HO.out.below al6)
      have HBW6 := Lib.hid (HBW.out.trans (al6.mono hsw))
      have HST := Lib.hid hst
      clear al6 HO HBW hst HNAMES HNL
      go_wp2_with (at_builtin; refine app_str W3.heap.size fn HO6.out.1 (by simp; omega) (by omega) rfl _ _ rfl rfl (by rw [hz6]; rfl) ?_)
      intro v7 w7 hO7 hb7 hfar7
      have hn7 := HO6.out.far hO7 hfar7
      obtain ⟨a7, c7, rfl⟩ := hO7.shape
      have HN7 := Lib.hid hn7
      have HB7 := Lib.hid (HBW6.out.trans hb7)
      clear hn7 hO7 hb7 hfar7 HO6 HBW6
      go_wp2
      go_roundw
      case rel => exact ⟨k' + 1, by omega, by go_num, by rw [HST.out]; exact HN7, HB7⟩
      case measure => simp [intOf]; omega
    · have hke : k' = brs.length := by omega
      subst hke
      have hN := HO.out
      rw [List.take_length] at hN
      have hnl := HNL.out brs.length
      rw [List.take_length] at hnl
      have hNF := hN.1.rd.2
      obtain ⟨acc, hacc⟩ : ∃ l, dated2 ++ brs.map (·.1) = l := ⟨_, rfl⟩
      rw [hacc] at hN hnl hdl hNF
      have hBW := HB3.out.trans (HBW.out.mono HB3.out.size)
      have k5 := K3.out wr hBW oa oc acc (by rw [← hacc]) hNF
      have hal : acc.length = dated2.length + brs.length := by rw [← hacc]; simp
      rw [hal] at k5
      have HAL := Lib.hid hal
      clear hal
      have e1 := (HBW.out.block w.heap.size (by have := Z3.out; omega)).trans Y1.out
      have e2 := (HBW.out.block (w.heap.size + 2) (by have := Z3.out; omega)).trans Y3.out
      have q3 := (of_heap e1 3).1
      have q7 := (of_heap e1 7).1
      simp at q3 q7
      have HN := Lib.hid hN; have K5 := Lib.hid k5
      have HBW' := Lib.hid hBW
      have HACC := Lib.hid hacc
      clear HO K3 hN k5 hNF hacc HNAMES HNL hBW
      go_wp2_with fail
      (with_reducible refine K5.out.mono ?_)
      rintro e w8 ⟨a8, c8, rfl, ho8, hb8⟩
      have hsz8 := hb8.size
      have hsw := HBW.out.size
      have hO8 := Lib.hid (OwnF.base ho8 hsw)
      have hR8 := Lib.hid ((HN.out.2.1).below hb8)
      have hB8 := Lib.hid (HBW.out.trans (hb8.mono hsw))
      clear ho8 K5 HN
      obtain ⟨ds, hds⟩ : ∃ ds, delL xs acc = ds := ⟨_, rfl⟩
      rw [hds] at hO8 hdl ⊢
      have HDS := Lib.hid hds
      clear hds
      go_wp2_with (at_builtin; refine app_flds W3.heap.size hO8.out (by omega) hR8.out (by omega) rfl _ _ rfl rfl rfl ?_)
      intro v9 w9 hO9 hb9 _
      obtain ⟨a9, c9, rfl⟩ := hO9.shape
      have hB9 : Below W3.heap.size W3 w9 := hB8.out.trans hb9
      have z9 : w.heap.size < W3.heap.size := by have := Z3.out; omega
      have z92 : w.heap.size + 2 < W3.heap.size := by have := Z3.out; omega
      have f1 := (hB9.block w.heap.size z9).trans Y1.out
      have f2 := (hB9.block (w.heap.size + 2) z92).trans Y3.out
      have e3 := (of_heap f1 3).1; have g3 := (of_heap f1 3).2.1
      have e5 := (of_heap f1 5).1; have g5 := (of_heap f1 5).2.1
      have e6 := (of_heap f1 6).1; have g6 := (of_heap f1 6).2.1
      have e7 := (of_heap f1 7).1; have ez := (of_heap f1 7).2.2
      simp only [List.getElem?_toArray, List.getElem?_cons_succ, List.getElem?_cons_zero] at e3 e5 e6 e7
      have hBw : Below w.heap.size w w9 := HB3.out.trans (hB9.mono HB3.out.size)
      have hs9 := hB9.size
      have hdb : (ds ++ brs).length = ds.length + brs.length := List.length_append
      rw [hdb] at hO9
      have HDB := Lib.hid hdb
      have HO9 := Lib.hid hO9; have HBw := Lib.hid hBw; have F1 := Lib.hid f1; have F2 := Lib.hid f2; have Z9 := Lib.hid z9; have HS9 := Lib.hid hs9
      clear hdb hO9 hBw f1 f2 hb9 hB9 hO8 hB8 hR8
      go_wp2_with (at_builtin; refine app_flds _ (OwnF.nil _ _) (Nat.le_refl _) (HV.out _ (((HBw.out.setCell (Nat.le_refl _) _).setCell (Nat.le_refl _) _).setCell (Nat.le_refl _) _)) (by simp; omega) rfl _ _ rfl rfl rfl ?_)
      intro v10 w10 hO10 hb10 _
      obtain ⟨a10, c10, rfl⟩ := hO10.shape
      have ew : w.heap.size < w9.heap.size := Nat.lt_of_lt_of_le Z9.out HS9.out
      have ew2 : w.heap.size + 2 < w9.heap.size := by have := Z3.out; have := HS9.out; omega
      have p1 := (hb10.block w.heap.size ew).trans (heap_setN (j := 6) (v := .int .i64 t1) (heap_setN (j := 5) (v := .int .i64 t0) (heap_setN (j := 3) (v := .slice a9 (ds.length + brs.length) c9) F1.out)))
      have p2 := (hb10.block (w.heap.size + 2) ew2).trans (heap_setO (p := ⟨w.heap.size, 6, none⟩) (v := .int .i64 t1) (heap_setO (p := ⟨w.heap.size, 5, none⟩) (v := .int .i64 t0) (heap_setO (p := ⟨w.heap.size, 3, none⟩) (v := .slice a9 (ds.length + brs.length) c9) F2.out (by simp)) (by simp)) (by simp))
      simp only [List.setIfInBounds_toArray, List.set_cons_zero, List.set_cons_succ] at p1
      have i0 := (of_heap p1 0).1; have i1 := (of_heap p1 1).1; have i2 := (of_heap p1 2).1; have i3 := (of_heap p1 3).1; have i4 := (of_heap p1 4).1; have i5 := (of_heap p1 5).1; have i6 := (of_heap p1 6).1; have i7 := (of_heap p1 7).1; have k7 := (of_heap p1 7).2.1
      have j0 := (of_heap p2 0).1; have j1 := (of_heap p2 1).1; have j2 := (of_heap p2 2).1; have j3 := (of_heap p2 3).1; have j4 := (of_heap p2 4).1; have j5 := (of_heap p2 5).1; have j6 := (of_heap p2 6).1; have j7 := (of_heap p2 7).1
      have l0 := (of_heap p2 0).2.1; have l1 := (of_heap p2 1).2.1; have l2 := (of_heap p2 2).2.1; have l3 := (of_heap p2 3).2.1; have l4 := (of_heap p2 4).2.1; have l5 := (of_heap p2 5).2.1; have l6 := (of_heap p2 6).2.1; have l7 := (of_heap p2 7).2.1
      simp only [List.getElem?_toArray, List.getElem?_cons_succ, List.getElem?_cons_zero] at i0 i1 i2 i3 i4 i5 i6 i7 j0 j1 j2 j3 j4 j5 j6 j7
      have hO9' : OwnF W3.heap.size (.slice a9 (ds.length + brs.length) c9) (ds ++ brs) w10 := OwnF.below (ownsRow_setCell_below (a := ⟨w.heap.size, 6, none⟩) (ownsRow_setCell_below (a := ⟨w.heap.size, 5, none⟩) (ownsRow_setCell_below (a := ⟨w.heap.size, 3, none⟩) HO9.out Z9.out _) Z9.out _) Z9.out _) (hb10.mono (by simp))
      have hBw10 : Below w.heap.size w w10 := (((HBw.out.setCell (Nat.le_refl _) _).setCell (Nat.le_refl _) _).setCell (Nat.le_refl _) _).trans (hb10.mono (Nat.le_of_lt ew))
      have HO9' := Lib.hid hO9'; have HO10 := Lib.hid hO10; have HB10 := Lib.hid hBw10; have EW := Lib.hid ew; have EW2 := Lib.hid ew2
      clear hO9' hO10 hBw10 p1 p2 hb10 e3 e5 e6 e7 g3 g5 g6 HBw F1 F2 HO9
      go_wp2_with fail
      have hfs : delL xs (dated2 ++ (bringsL rep).map (·.1)) ++ bringsL rep = ds ++ brs := by rw [HGB.out, HACC.out, HDS.out]
      refine bodyPost_ret_by (v := .agg #[.int .i64 st, .string re, .int .i64 mi, .slice a9 (ds.length + brs.length) c9, .string bo, .int .i64 t0, .int .i64 t1, .slice a10 vs.length c10]) ?_ rfl ?_
      · rw [results_cell_one rfl]
        go_simp
      · rw [hfs]
        have z0 : w.heap.size < W3.heap.size := by have := Z3.out; omega
        have z2 : w.heap.size + 1 + 1 < W3.heap.size := by have := Z3.out; omega
        refine ⟨a9, c9, a10, c10, by unfold entV; rw [HDB.out], ?_, ?_, ?_⟩
        · rw [HDB.out]
          exact OwnF.base (set8_ownF z2 (ownsRow_setCell_below (a := ⟨w.heap.size, 7, none⟩) HO9'.out z0 _)) (Nat.le_of_lt z0)
        · have h10 : OwnF w9.heap.size (.slice a10 vs.length c10) vs w10 := by
            have := HO10.out
            simpa using this
          exact OwnF.base (set8_ownF (by have := EW2.out; omega) (ownsRow_setCell_below (a := ⟨w.heap.size, 7, none⟩) h10 EW.out _)) (Nat.le_of_lt EW.out)
        · exact set8_below' (by omega) (HB10.out.setCell (p := ⟨w.heap.size, 7, none⟩) (Nat.le_refl _) _)
end Go.Proofs.YtgmmjhcklhajiaaDoor
/- The walk of the document's Same (two lists of fields). -/
namespace Go.Proofs.YtgmmjhcklhajiaaDoor
open Go.RowKit

set_option maxHeartbeats 4000000 in
theorem samef04_any (A : Option Addr) (n c : Nat) (xs : List Fld) (B : Option Addr) (m d : Nat) (ys : List Fld) (w : World) (hA : Rd A n 2 (fldsV xs) w) (hB : Rd B m 2 (fldsV ys) w) (h1 : xs.length ≤ 1000001) (h2 : ys.length ≤ 1000001) :
    Calls Tryd.prog 8 #[.slice A n c, .slice B m d] w fun e w' => e = .returned (.bool (xs == ys)) ∧ Below w.heap.size w w' := by
  obtain rfl := hA.fld
  obtain rfl := hB.fld
  have HA := Lib.hid hA; have HB := Lib.hid hB; clear hA hB
  cases hl : ((xs.length : Int) == (ys.length : Int))
  · have nl : ((xs.length : Int) != (ys.length : Int)) = true := by simp [bne, hl]
    have hr : (xs == ys) = false := by
      rw [beq_eq_false_iff_ne]; intro e; subst e; simp at hl
    have HR := Lib.hid hr; clear hr
    go_enter Tryd.func8, Tryd.ntmps8
    go_wp2
    go_ret
    rw [HR.out]
    exact ⟨rfl, Below.refl _ w⟩
  · have nl : ((xs.length : Int) != (ys.length : Int)) = false := by simp [bne, hl]
    have hle : xs.length = ys.length := by simp at hl; omega
    go_enter Tryd.func8, Tryd.ntmps8
    go_wp2
    go_loopw [5] (fun i wr => ∃ k : Nat, k ≤ xs.length ∧ i = .int .i64 k ∧ Below w.heap.size w wr ∧ Hid (xs.take k = ys.take k)) (fun i _ => xs.length - (intOf i).toNat)
    case atStart => exact ⟨0, Nat.zero_le _, rfl, Below.refl _ w, by show _ = _; rfl⟩
    case round =>
      obtain ⟨k, hk, rfl, hbw, HT⟩ := hrel
      by_cases hlt : k < xs.length
      · have hl2 : k < ys.length := by omega
        obtain ⟨b1, o1, rfl, _, c1, c2⟩ := (HA.out.below hbw).fld_at (k := k) hlt
        obtain ⟨b2, o2, rfl, _, c3, c4⟩ := (HB.out.below hbw).fld_at (k := k) hl2
        have t1 : decide ((k : Int) < (ys.length : Int)) = true := by simp; omega
        have t2 : decide ((k : Int) < (xs.length : Int)) = true := by simp; omega
        have hno : xs[k] ≠ ys[k] → Hid ((xs == ys) = false) := by
          intro h; refine Lib.hid ?_
          rw [beq_eq_false_iff_ne]; intro e; subst e; exact h rfl
        have hyes : xs[k] = ys[k] → Hid (xs.take (k + 1) = ys.take (k + 1)) := by
          intro h; refine Lib.hid ?_
          rw [List.take_succ_eq_append_getElem hlt, List.take_succ_eq_append_getElem hl2, HT.out, h]
        generalize xs[k] = f at *
        generalize ys[k] = g at *
        obtain ⟨f1, f2⟩ := f
        obtain ⟨g1, g2⟩ := g
        simp only at c1 c2 c3 c4
        have HNO := Lib.hid hno; have HYES := Lib.hid hyes; clear hno hyes HT hle
        cases e1 : (f1 == g1) <;> cases e2 : (f2 == g2)
        all_goals first
          | (have HR := HNO.out (by intro h; cases h; simp at e1 e2)
             go_wp2
             go_quiet (fail)
             go_wp2
             go_ret
             rw [HR.out]
             exact ⟨rfl, Go.below_drewN hbw _⟩)
          | (have HN := HYES.out (by rw [beq_iff_eq.1 e1, beq_iff_eq.1 e2])
             go_wp2
             go_quiet (fail)
             go_wp2
             go_roundw
             case rel => exact ⟨k + 1, by omega, by go_num, Go.below_drewN hbw _, HN⟩
             case measure => simp [intOf]; omega)
      · have hke : k = xs.length := by omega
        subst hke
        have hr : (xs == ys) = true := by
          have := HT.out; rw [List.take_length, hle, List.take_length] at this; rw [this]; simp
        have HR := Lib.hid hr; clear hr
        have t1 : decide ((xs.length : Int) < (xs.length : Int)) = false := by simp
        go_wp2
        go_ret
        rw [HR.out]
        exact ⟨rfl, hbw⟩
end Go.Proofs.YtgmmjhcklhajiaaDoor
/- The walk of the document's Same (layer 20), of entries that are. -/
namespace Go.Proofs.YtgmmjhcklhajiaaDoor
open Go.RowKit
set_option maxRecDepth 100000

set_option maxHeartbeats 8000000 in
theorem same20_any (st mi asked got : Int) (re bo : ByteArray) (A V A' V' : Option Addr) (c d c' d' : Nat) (xs vs : List Fld) (w : World) (hA : Rd A xs.length 2 (fldsV xs) w) (hV : Rd V vs.length 2 (fldsV vs) w) (hA' : Rd A' xs.length 2 (fldsV xs) w) (hV' : Rd V' vs.length 2 (fldsV vs) w) (h1 : xs.length ≤ 1000) (h2 : vs.length ≤ 1000) :
    Calls Tryd.prog 10 #[.agg #[.int .i64 st, .string re, .int .i64 mi, .slice A xs.length c, .string bo, .int .i64 asked, .int .i64 got, .slice V vs.length d], .agg #[.int .i64 st, .string re, .int .i64 mi, .slice A' xs.length c', .string bo, .int .i64 asked, .int .i64 got, .slice V' vs.length d']] w fun e w' => e = .returned (.bool true) ∧ Below w.heap.size w w' := by
  obtain ⟨W1, hW1⟩ : ∃ W1, w.alloc (.cells #[.int .i64 st, .string re, .int .i64 mi, .slice A xs.length c, .string bo, .int .i64 asked, .int .i64 got, .slice V vs.length d] 26) = W1 := ⟨_, rfl⟩
  have b1 : Below w.heap.size w W1 := by rw [← hW1]; exact (Below.refl w.heap.size w).alloc (Nat.le_refl _) _
  have z1 : W1.heap.size = w.heap.size + 1 := by rw [← hW1]; simp
  have x1 : W1.heap[w.heap.size]? = some (.cells #[.int .i64 st, .string re, .int .i64 mi, .slice A xs.length c, .string bo, .int .i64 asked, .int .i64 got, .slice V vs.length d] 26 (0, 0)) := by rw [← hW1]; exact heap_new w _ _ rfl
  obtain ⟨W2, hW2⟩ : ∃ W2, W1.alloc (.cells #[.int .i64 st, .string re, .int .i64 mi, .slice A' xs.length c', .string bo, .int .i64 asked, .int .i64 got, .slice V' vs.length d'] 26) = W2 := ⟨_, rfl⟩
  have b2 : Below W1.heap.size W1 W2 := by rw [← hW2]; exact (Below.refl W1.heap.size W1).alloc (Nat.le_refl _) _
  have x2 : W2.heap[w.heap.size + 1]? = some (.cells #[.int .i64 st, .string re, .int .i64 mi, .slice A' xs.length c', .string bo, .int .i64 asked, .int .i64 got, .slice V' vs.length d'] 26 (0, 0)) := by rw [← hW2]; exact heap_new W1 _ _ z1
  have x1 := (b2.block w.heap.size (by omega)).trans x1
  have hB2 := bt b1 b2
  have k1 := samef04_any V vs.length d vs V' vs.length d' vs W2 (hV.below hB2) (hV'.below hB2) (by omega) (by omega)
  rw [show (vs == vs) = true from by simp] at k1
  have k2 := fun W (hb : Below w.heap.size w W) => samef04_any A xs.length c xs A' xs.length c' xs W (hA.below hb) (hA'.below hb) (by omega) (by omega)
  rw [show (xs == xs) = true from by simp] at k2
  have c1 := (of_heap x1 1).1; have c2 := (of_heap x1 2).1; have c7 := (of_heap x1 7).1; have hl1 := (of_heap x1 1).2.2
  have d1 := (of_heap x2 1).1; have d2 := (of_heap x2 2).1; have d7 := (of_heap x2 7).1; have hl2 := (of_heap x2 1).2.2
  simp only [List.getElem?_toArray, List.getElem?_cons_succ, List.getElem?_cons_zero] at c1 c2 c7 d1 d2 d7
  have e1 : (asked == asked) = true := by simp
  have e2 : (got == got) = true := by simp
  have e3 : (st == st) = true := by simp
  have e4 : (mi == mi) = true := by simp
  have e5 : (re.data.toList == re.data.toList) = true := by simp
  have e6 : (bo.data.toList == bo.data.toList) = true := by simp
  have HW1 := Lib.hid hW1; have HW2 := Lib.hid hW2; have K1 := Lib.hid k1; have K2 := Lib.hid k2; have X1 := Lib.hid x1; have X2 := Lib.hid x2; have HB2 := Lib.hid hB2
  clear hW1 hW2 k1 k2 x1 x2 b1 b2 z1 hB2 hA hV hA' hV'
  go_enter Tryd.func10, Tryd.ntmps10
  go_upto_region 0 with (fail)
  go_wp2_with fail
  rw [HW1.out, HW2.out]
  (with_reducible refine K1.out.mono ?_)
  rintro e w3 ⟨rfl, hb3⟩
  have y1 := (hb3.block w.heap.size hl1).trans X1.out
  have y2 := (hb3.block (w.heap.size + 1) hl2).trans X2.out
  have HB3 := Lib.hid (bt HB2.out hb3)
  clear c1 c2 c7 d1 d2 d7 hb3
  have c0 := (of_heap y1 0).1; have c1 := (of_heap y1 1).1; have c2 := (of_heap y1 2).1; have c3 := (of_heap y1 3).1; have c4 := (of_heap y1 4).1
  have d0 := (of_heap y2 0).1; have d1 := (of_heap y2 1).1; have d2 := (of_heap y2 2).1; have d3 := (of_heap y2 3).1; have d4 := (of_heap y2 4).1
  simp only [List.getElem?_toArray, List.getElem?_cons_succ, List.getElem?_cons_zero] at c0 c1 c2 c3 c4 d0 d1 d2 d3 d4
  clear y1 y2
  go_wp2_with fail
  (with_reducible refine (K2.out _ HB3.out).mono ?_)
  rintro e w4 ⟨rfl, hb4⟩
  go_wp2
  go_ret
  exact ⟨rfl, bt HB3.out hb4⟩
end Go.Proofs.YtgmmjhcklhajiaaDoor
/- The walk of the law's few (layer 20). -/
namespace Go.Proofs.YtgmmjhcklhajiaaDoor
open Go.RowKit
set_option maxRecDepth 100000

def few20 (xs : List Fld) : Bool := decide (xs.length ≤ 80) && decide (sumF xs ≤ 6000)
theorem few20_yes {xs : List Fld} (h : few20 xs = true) : xs.length ≤ 80 ∧ sumF xs ≤ 6000 := by
  unfold few20 at h; simpa using h

set_option maxHeartbeats 4000000 in
theorem few20_any (A : Option Addr) (n c : Nat) (xs : List Fld) (w : World) (hr : Rd A n 2 (fldsV xs) w) (hn : n ≤ 140737488355328) (hs : ∀ f ∈ xs, f.1.length ≤ 140737488355328 ∧ f.2.length ≤ 140737488355328) :
    Calls Tryd.prog 5 #[.slice A n c] w fun e w' => e = .returned (.bool (few20 xs)) ∧ Below w.heap.size w w' := by
  obtain rfl := hr.fld
  have hB := Below.refl w.heap.size w
  by_cases h80 : xs.length ≤ 80
  · have hbad : ∀ k (h : k < xs.length), 6000 < sumF (xs.take k) + (xs[k].1.length + xs[k].2.length) → few20 xs = false := by
      intro k h h1
      have h2 := sumF_take xs (k + 1)
      rw [sumF_snoc xs k h] at h2
      unfold few20
      rw [show decide (sumF xs ≤ 6000) = false from by simp; omega, Bool.and_false]
    have hgood : sumF (xs.take xs.length) ≤ 6000 → few20 xs = true := by
      intro h; rw [List.take_length] at h; unfold few20; simp; exact ⟨h80, h⟩
    have hsn := sumF_snoc xs
    have h00 : sumF (xs.take 0) = 0 := rfl
    have HR := Lib.hid hr; have HS := Lib.hid hs; have HBAD := Lib.hid hbad; have HG := Lib.hid hgood; have HSN := Lib.hid hsn; have H00 := Lib.hid h00; clear hr hs hbad hgood hsn h00
    generalize few20 xs = out at *
    go_enter Tryd.func5, Tryd.ntmps5
    go_wp2
    go_loopw [4, 3] (fun i x wr => ∃ (k : Nat) (r : Int), k ≤ xs.length ∧ i = .int .i64 k ∧ x = .int .i64 r ∧ Hid (r = 6000 - (sumF (xs.take k) : Int)) ∧ 0 ≤ r ∧ r ≤ 6000 ∧ Below w.heap.size w wr) (fun i _ _ => xs.length - (intOf i).toNat)
    case atStart => exact ⟨0, 6000, Nat.zero_le _, rfl, rfl, Lib.hid (by rw [H00.out]; rfl), by omega, by omega, hB⟩
    case round =>
      clear hB H00
      obtain ⟨k, r, hk, rfl, rfl, HE, hr0, hr1, hbw⟩ := hrel
      by_cases hlt : k < xs.length
      · obtain ⟨b, o, rfl, hl, c1, c2⟩ := HR.out.fld_at (k := k) hlt
        have hf := HS.out xs[k] (List.getElem_mem _)
        have hbd := HBAD.out k hlt
        have hsn := HSN.out k hlt
        have he := HE.out
        generalize xs[k] = f at *
        obtain ⟨f1, f2⟩ := f
        simp only at c1 c2 hf hbd hsn
        have hn2 : sumF (xs.take (k + 1)) = sumF (xs.take k) + (f1.length + f2.length) := hsn
        clear hsn
        obtain ⟨s1, hs1⟩ : ∃ s1, sumF (xs.take (k + 1)) = s1 := ⟨_, rfl⟩
        rw [hs1] at hn2
        have HS1 := Lib.hid hs1; clear hs1
        generalize sumF (xs.take k) = s0 at *
        have d1 := (hbw.cell (p := ⟨b, o + k * 2, none⟩) hl).trans c1
        have d2 := (hbw.cell (p := ⟨b, o + k * 2 + 1, none⟩) hl).trans c2
        clear c1 c2 HBAD HSN HG HE
        have z1 : (⟨f1.toArray⟩ : ByteArray).size = f1.length := by rw [Lib.size_eq]
        have z2 : (⟨f2.toArray⟩ : ByteArray).size = f2.length := by rw [Lib.size_eq]
        obtain ⟨hf1, hf2⟩ := hf
        generalize f1.length = n1 at *
        generalize f2.length = n2 at *
        have hwid : (0 : Int) ≤ n1 ∧ (0 : Int) ≤ n2 := by omega
        cases t1 : decide ((n1 : Int) > r)
        · have q1 : IntKind.i64.wrap (r - (n1 : Int)) = r - (n1 : Int) := IntWalk.i64_in _ (by simp at t1; omega)
          cases t2 : decide ((n2 : Int) > r - (n1 : Int))
          · have q2 : IntKind.i64.wrap (r - (n1 : Int) - (n2 : Int)) = r - (n1 : Int) - (n2 : Int) := IntWalk.i64_in _ (by simp at t1 t2; omega)
            have hnx : r - (n1 : Int) - (n2 : Int) = 6000 - (s1 : Int) := by omega
            have hg0 : 0 ≤ r - (n1 : Int) - (n2 : Int) := by simp at t1 t2; omega
            have HNX := Lib.hid hnx; have HG0 := Lib.hid hg0
            clear hbd he hnx hn2 hg0
            go_wp2
            go_quiet (fail)
            go_wp2
            go_quiet (fail)
            go_wp2
            go_roundw
            case rel => exact ⟨k + 1, _, by omega, by go_num, rfl, by rw [HS1.out]; exact HNX, HG0.out, by omega, Go.below_drewN hbw _⟩
            case measure => simp [intOf]; omega
          · have hx := hbd (by simp at t1 t2; omega)
            have Hx := Lib.hid hx
            clear hx hbd he hn2
            go_wp2
            go_quiet (fail)
            go_wp2
            go_ret
            rw [Hx.out]
            exact ⟨rfl, Go.below_drewN hbw _⟩
        · have hx := hbd (by simp at t1; omega)
          have Hx := Lib.hid hx
          clear hx hbd he hn2
          go_wp2
          go_quiet (fail)
          go_wp2
          go_ret
          rw [Hx.out]
          exact ⟨rfl, Go.below_drewN hbw _⟩
      · have hke : k = xs.length := by omega
        subst hke
        have hx := HG.out (by have := HE.out; omega)
        have Hx := Lib.hid hx; clear hx HE
        go_wp2
        go_ret
        rw [Hx.out]
        exact ⟨rfl, hbw⟩
  · have hx : few20 xs = false := by unfold few20; rw [show decide (xs.length ≤ 80) = false from by simpa using h80, Bool.false_and]
    rw [hx]
    clear hx hs hr
    go_enter Tryd.func5, Tryd.ntmps5
    go_wp2
    go_ret
    exact ⟨rfl, hB⟩
end Go.Proofs.YtgmmjhcklhajiaaDoor
/- The walk of the document's Texts (layer 4). -/
namespace Go.Proofs.YtgmmjhcklhajiaaDoor
open Go.RowKit
set_option maxRecDepth 100000

set_option maxHeartbeats 4000000 in
theorem texts04_any (A : Option Addr) (n c : Nat) (xs : List (List UInt8)) (B : Option Addr) (m d : Nat) (ys : List (List UInt8)) (w : World) (hA : Rd A n 1 (strsV xs) w) (hB : Rd B m 1 (strsV ys) w) (h1 : xs.length ≤ 1000001) (h2 : ys.length ≤ 1000001) :
    Calls Tryd.prog 11 #[.slice A n c, .slice B m d] w fun e w' => e = .returned (.bool (xs == ys)) ∧ Below w.heap.size w w' := by
  obtain rfl := hA.str
  obtain rfl := hB.str
  have HA := Lib.hid hA; have HB := Lib.hid hB; clear hA hB
  cases hl : ((xs.length : Int) == (ys.length : Int))
  · have nl : ((xs.length : Int) != (ys.length : Int)) = true := by simp [bne, hl]
    have hr : (xs == ys) = false := by
      rw [beq_eq_false_iff_ne]; intro e; subst e; simp at hl
    have HR := Lib.hid hr; clear hr
    go_enter Tryd.func11, Tryd.ntmps11
    go_wp2
    go_ret
    rw [HR.out]
    exact ⟨rfl, Below.refl _ w⟩
  · have nl : ((xs.length : Int) != (ys.length : Int)) = false := by simp [bne, hl]
    have hle : xs.length = ys.length := by simp at hl; omega
    go_enter Tryd.func11, Tryd.ntmps11
    go_wp2
    go_loopw [5] (fun i wr => ∃ k : Nat, k ≤ xs.length ∧ i = .int .i64 k ∧ Below w.heap.size w wr ∧ Hid (xs.take k = ys.take k)) (fun i _ => xs.length - (intOf i).toNat)
    case atStart => exact ⟨0, Nat.zero_le _, rfl, Below.refl _ w, by show _ = _; rfl⟩
    case round =>
      obtain ⟨k, hk, rfl, hbw, HT⟩ := hrel
      by_cases hlt : k < xs.length
      · have hl2 : k < ys.length := by omega
        obtain ⟨b1, o1, rfl, _, c1⟩ := (HA.out.below hbw).str_at (k := k) hlt
        obtain ⟨b2, o2, rfl, _, c2⟩ := (HB.out.below hbw).str_at (k := k) hl2
        have t1 : decide ((k : Int) < (ys.length : Int)) = true := by simp; omega
        have t2 : decide ((k : Int) < (xs.length : Int)) = true := by simp; omega
        have hno : (xs[k] == ys[k]) = false → Hid ((xs == ys) = false) := by
          intro h; refine Lib.hid ?_
          rw [beq_eq_false_iff_ne] at h ⊢; intro e; subst e; exact h rfl
        have hyes : (xs[k] == ys[k]) = true → Hid (xs.take (k + 1) = ys.take (k + 1)) := by
          intro h; refine Lib.hid ?_
          rw [List.take_succ_eq_append_getElem hlt, List.take_succ_eq_append_getElem hl2, HT.out, beq_iff_eq.1 h]
        generalize xs[k] = f at *
        generalize ys[k] = g at *
        have HNO := Lib.hid hno; have HYES := Lib.hid hyes; clear hno hyes HT hle
        cases hx : (f == g)
        · have HR := HNO.out hx
          go_wp2
          go_quiet (fail)
          go_wp2
          go_ret
          rw [HR.out]
          exact ⟨rfl, Go.below_drewN hbw _⟩
        · have HN := HYES.out hx
          go_wp2
          go_quiet (fail)
          go_wp2
          go_roundw
          case rel => exact ⟨k + 1, by omega, by go_num, Go.below_drewN hbw _, HN⟩
          case measure => simp [intOf]; omega
      · have hke : k = xs.length := by omega
        subst hke
        have hr : (xs == ys) = true := by
          have := HT.out; rw [List.take_length, hle, List.take_length] at this; rw [this]; simp
        have HR := Lib.hid hr; clear hr
        have t1 : decide ((xs.length : Int) < (xs.length : Int)) = false := by simp
        go_wp2
        go_ret
        rw [HR.out]
        exact ⟨rfl, hbw⟩
end Go.Proofs.YtgmmjhcklhajiaaDoor
/- RefreshAgain: the walk of the law (printed by wip/tools/again20.py). -/
namespace Go.Proofs.YtgmmjhcklhajiaaDoor
open Go.RowKit
set_option maxRecDepth 100000

def same5 : List (List UInt8) := [[99, 111, 110, 116, 101, 110, 116, 45, 108, 101, 110, 103, 116, 104], [99, 111, 110, 116, 101, 110, 116, 45, 116, 121, 112, 101], [99, 111, 110, 116, 101, 110, 116, 45, 101, 110, 99, 111, 100, 105, 110, 103], [99, 111, 110, 116, 101, 110, 116, 45, 114, 97, 110, 103, 101], [118, 97, 114, 121]]
theorem same5_own : ∀ nm ∈ same5, nm ∈ own5 := by decide
theorem same5_len : ∀ nm ∈ same5, nm.length ≤ 100 := by decide
set_option maxHeartbeats 64000000 in
theorem refreshAgain_any (st mi asked got : Int) (re bo : ByteArray) (A V R : Option Addr) (n c m d k l : Nat) (xs vs rep : List Fld) (name : ByteArray) (w : World) (hE : DEnv w) (hr : Rd A n 2 (fldsV xs) w) (hv : Rd V m 2 (fldsV vs) w) (hq : Rd R k 2 (fldsV rep) w) (hn : n ≤ 140737488355328) (hm : m ≤ 140737488355328) (hk : k ≤ 140737488355328) (hs : ∀ f ∈ xs, f.1.length ≤ 140737488355328 ∧ f.2.length ≤ 140737488355328) (hsv : ∀ f ∈ vs, f.1.length ≤ 140737488355328 ∧ f.2.length ≤ 140737488355328) (hsq : ∀ f ∈ rep, f.1.length ≤ 140737488355328 ∧ f.2.length ≤ 140737488355328) :
    Calls Tryd.prog 3 #[.agg #[.int .i64 st, .string re, .int .i64 mi, .slice A n c, .string bo, .int .i64 asked, .int .i64 got, .slice V m d], .slice R k l, .string name] w fun e w' => e = .returned (.bool true) ∧ Below w.heap.size w w' := by
  obtain rfl := hr.fld; obtain rfl := hv.fld; obtain rfl := hq.fld
  obtain ⟨W1, hW1⟩ : ∃ W1, w.alloc (.cells #[.int .i64 st, .string re, .int .i64 mi, .slice A xs.length c, .string bo, .int .i64 asked, .int .i64 got, .slice V vs.length d] 26) = W1 := ⟨_, rfl⟩
  have b1 : Below w.heap.size w W1 := by rw [← hW1]; exact (Below.refl w.heap.size w).alloc (Nat.le_refl _) _
  have x1 : W1.heap[w.heap.size]? = some (.cells #[.int .i64 st, .string re, .int .i64 mi, .slice A xs.length c, .string bo, .int .i64 asked, .int .i64 got, .slice V vs.length d] 26 (0, 0)) := by rw [← hW1]; exact heap_new w _ _ rfl
  have hEl := (of_heap x1 0).2.2
  have k1 := few20_any A xs.length c xs W1 (hr.below b1) hn hs
  have k2 := fun W (hb : Below w.heap.size w W) => few20_any V vs.length d vs W (hv.below hb) hm hsv
  have k3 := fun W (hb : Below w.heap.size w W) => few20_any R rep.length l rep W (hq.below hb) hk hsq
  have HWK := Lib.hid (fun W (hb : Below w.heap.size w W) => works20_any W (hE.below hb))
  have c3 := (of_heap x1 3).1; have c7 := (of_heap x1 7).1
  simp only [List.getElem?_toArray, List.getElem?_cons_succ, List.getElem?_cons_zero] at c3 c7
  cases f1 : few20 xs
  · rw [f1] at k1
    have K1 := Lib.hid k1; have K2 := Lib.hid k2; have K3 := Lib.hid k3; have HW1 := Lib.hid hW1; have X1 := Lib.hid x1; have HB1 := Lib.hid b1
    clear k1 k2 k3 hW1 x1 b1 hr hv hq hE hs hsv hsq
    go_enter Tryd.func3, Tryd.ntmps3
    go_upto_region 1 with (fail)
    rw [HW1.out]
    go_wp2_with fail
    (with_reducible refine K1.out.mono ?_)
    rintro e w1 ⟨rfl, hb⟩
    have HB := Lib.hid (bt HB1.out hb)
    clear hb
    go_wp2_with fail
    (with_reducible refine (HWK.out _ HB.out).mono ?_)
    rintro e w4 ⟨rfl, hb⟩
    go_wp2
    go_ret
    exact ⟨rfl, bt HB.out hb⟩
  · rw [f1] at k1
    cases f2 : few20 vs
    · rw [f2] at k2
      have K1 := Lib.hid k1; have K2 := Lib.hid k2; have K3 := Lib.hid k3; have HW1 := Lib.hid hW1; have X1 := Lib.hid x1; have HB1 := Lib.hid b1
      clear k1 k2 k3 hW1 x1 b1 hr hv hq hE hs hsv hsq
      go_enter Tryd.func3, Tryd.ntmps3
      go_upto_region 1 with (fail)
      rw [HW1.out]
      go_wp2_with fail
      (with_reducible refine K1.out.mono ?_)
      rintro e w1 ⟨rfl, hb⟩
      have HB := Lib.hid (bt HB1.out hb)
      have c7 := (hb.cell (p := ⟨w.heap.size, 7, none⟩) hEl).trans c7
      clear hb
      go_wp2_with fail
      (with_reducible refine (K2.out _ HB.out).mono ?_)
      rintro e w2 ⟨rfl, hb⟩
      have HB := Lib.hid (bt HB.out hb)
      clear hb
      go_wp2_with fail
      (with_reducible refine (HWK.out _ HB.out).mono ?_)
      rintro e w4 ⟨rfl, hb⟩
      go_wp2
      go_ret
      exact ⟨rfl, bt HB.out hb⟩
    · rw [f2] at k2
      cases f3 : few20 rep
      · rw [f3] at k3
        have K1 := Lib.hid k1; have K2 := Lib.hid k2; have K3 := Lib.hid k3; have HW1 := Lib.hid hW1; have X1 := Lib.hid x1; have HB1 := Lib.hid b1
        clear k1 k2 k3 hW1 x1 b1 hr hv hq hE hs hsv hsq
        go_enter Tryd.func3, Tryd.ntmps3
        go_upto_region 1 with (fail)
        rw [HW1.out]
        go_wp2_with fail
        (with_reducible refine K1.out.mono ?_)
        rintro e w1 ⟨rfl, hb⟩
        have HB := Lib.hid (bt HB1.out hb)
        have c7 := (hb.cell (p := ⟨w.heap.size, 7, none⟩) hEl).trans c7
        clear hb
        go_wp2_with fail
        (with_reducible refine (K2.out _ HB.out).mono ?_)
        rintro e w2 ⟨rfl, hb⟩
        have HB := Lib.hid (bt HB.out hb)
        clear hb
        go_wp2_with fail
        (with_reducible refine (K3.out _ HB.out).mono ?_)
        rintro e w3 ⟨rfl, hb⟩
        have HB := Lib.hid (bt HB.out hb)
        clear hb
        go_wp2_with fail
        (with_reducible refine (HWK.out _ HB.out).mono ?_)
        rintro e w4 ⟨rfl, hb⟩
        go_wp2
        go_ret
        exact ⟨rfl, bt HB.out hb⟩
      · rw [f3] at k3
        by_cases hnm : 600 < name.size
        · have t1 : decide ((name.size : Int) > 600) = true := by simp; omega
          have K1 := Lib.hid k1; have K2 := Lib.hid k2; have K3 := Lib.hid k3; have HW1 := Lib.hid hW1; have X1 := Lib.hid x1; have HB1 := Lib.hid b1
          clear k1 k2 k3 hW1 x1 b1 hr hv hq hE hs hsv hsq
          go_enter Tryd.func3, Tryd.ntmps3
          go_upto_region 1 with (fail)
          rw [HW1.out]
          go_wp2_with fail
          (with_reducible refine K1.out.mono ?_)
          rintro e w1 ⟨rfl, hb⟩
          have HB := Lib.hid (bt HB1.out hb)
          have c7 := (hb.cell (p := ⟨w.heap.size, 7, none⟩) hEl).trans c7
          clear hb
          go_wp2_with fail
          (with_reducible refine (K2.out _ HB.out).mono ?_)
          rintro e w2 ⟨rfl, hb⟩
          have HB := Lib.hid (bt HB.out hb)
          clear hb
          go_wp2_with fail
          (with_reducible refine (K3.out _ HB.out).mono ?_)
          rintro e w3 ⟨rfl, hb⟩
          have HB := Lib.hid (bt HB.out hb)
          clear hb
          go_wp2_with fail
          (with_reducible refine (HWK.out _ HB.out).mono ?_)
          rintro e w4 ⟨rfl, hb⟩
          go_wp2
          go_ret
          exact ⟨rfl, bt HB.out hb⟩
        · have t1 : decide ((name.size : Int) > 600) = false := by simp; omega
          obtain ⟨hx1, hx2⟩ := few20_yes f1
          obtain ⟨hv1, hv2⟩ := few20_yes f2
          obtain ⟨hq1, hq2⟩ := few20_yes f3
          have hl1 := with_len xs rep
          have hl2 := with_sum xs rep
          have htw := with_twice xs rep
          have hno := with_none xs
          have how := with_own xs rep
          have hto := with_told xs rep name.data.toList
          have hdt := dated_is name.data.toList
          have kn := fun W (hb : Below w.heap.size w W) => with_any st mi asked got 304 0 1 2 re bo ⟨#[]⟩ ⟨#[]⟩ A V none xs.length c vs.length d 0 0 xs vs [] W (hr.below hb) (hv.below hb) Rd.nil (by omega) (by omega) (by omega) (by omega) (by simp [sumF])
          have ka := fun W (hb : Below w.heap.size w W) => with_any st mi asked got 304 0 1 2 re bo ⟨#[]⟩ ⟨#[120]⟩ A V R xs.length c vs.length d rep.length l xs vs rep W (hr.below hb) (hv.below hb) (hq.below hb) (by omega) (by omega) (by omega) (by omega) (by omega)
          rw [hno] at kn
          have kdel := fun a c' W (hb : Below w.heap.size w W) (h : Rd a 2 1 (strsV dated2) W) => del_any A xs.length c xs a 2 c' dated2 W (hr.below hb) (by omega) (fun f hf => by have := sumF_mem hf; omega) h (by omega) (by decide)
          have hdl := delL_le xs dated2
          have hvo := fun nm W (hb : Below w.heap.size w W) (h : nm.size ≤ 1000000) => values_any A xs.length c xs nm W (hr.below hb) (by omega) (fun f hf => by have := sumF_mem hf; omega) h
          have hvr := fun W (hb : Below w.heap.size w W) => values_any R rep.length l rep name W (hq.below hb) (by omega) (fun f hf => by have := sumF_mem hf; omega) (by omega)
          have hvlx := fun nm => valuesL_le xs nm
          have hvlr := valuesL_le rep name.data.toList
          have klow := fun W => rlower_any name W (by omega)
          generalize delL xs dated2 = dx at *
          generalize withL xs rep = xa at *
          have kb := fun a c' b d' W (hb : Below w.heap.size w W) (h1 : Rd a xa.length 2 (fldsV xa) W) (h2 : Rd b vs.length 2 (fldsV vs) W) => with2_any st mi 1 2 304 0 1 2 re bo ⟨#[]⟩ ⟨#[120]⟩ a b R xa.length c' vs.length d' rep.length l xa vs rep W h1 h2 (hq.below hb) (by omega) (by omega) (by omega) (by omega) (by omega)
          rw [htw] at kb
          have hva := fun a c' nm W (h1 : Rd a xa.length 2 (fldsV xa) W) (h : nm.size ≤ 1000000) => values_any a xa.length c' xa nm W h1 (by omega) (fun f hf => by have := sumF_mem hf; omega) h
          have hvla := fun nm => valuesL_le xa nm
          have hsd : (dx == dx) = true := by simp
          have hsv' : (vs == vs) = true := by simp
          have bxa : xa.length ≤ 1000 := by omega
          have KN := Lib.hid kn; have KA := Lib.hid ka; have KB := Lib.hid kb; have KDEL := Lib.hid kdel; have KVO := Lib.hid hvo; have KVR := Lib.hid hvr; have KVA := Lib.hid hva; have KLOW := Lib.hid klow
          have HOW := Lib.hid how; have HTO := Lib.hid hto; have HDT := Lib.hid hdt; have HVLX := Lib.hid hvlx; have HVLR := Lib.hid hvlr; have HVLA := Lib.hid hvla
          have HV := Lib.hid hv
          have K1 := Lib.hid k1; have K2 := Lib.hid k2; have K3 := Lib.hid k3; have HW1 := Lib.hid hW1; have X1 := Lib.hid x1; have HB1 := Lib.hid b1
          clear k1 k2 k3 hW1 x1 b1 hr hv hq hE hs hsv hsq kn ka kb kdel hvo hvr hva klow how hto hdt hvlx hvlr hvla hno htw f1 f2 f3 hl2 hx2 hv2 hq2
          unfold entV at KN KA KB
          go_enter Tryd.func3, Tryd.ntmps3
          go_upto_region 1 with (fail)
          rw [HW1.out]
          go_wp2_with fail
          (with_reducible refine K1.out.mono ?_)
          rintro e w1 ⟨rfl, hb⟩
          have XE := Lib.hid ((hb.block w.heap.size hEl).trans X1.out); have hEl := Nat.lt_of_lt_of_le hEl hb.size
          have HB := Lib.hid (bt HB1.out hb)
          have c7 := (of_heap XE.out 7).1
          simp only [List.getElem?_toArray, List.getElem?_cons_succ, List.getElem?_cons_zero] at c7
          clear hb HB1 X1 HW1
          go_wp2_with fail
          (with_reducible refine (K2.out _ HB.out).mono ?_)
          rintro e w2 ⟨rfl, hb⟩
          have XE := Lib.hid ((hb.block w.heap.size hEl).trans XE.out); have hEl := Nat.lt_of_lt_of_le hEl hb.size
          have HB := Lib.hid (bt HB.out hb)
          clear hb
          go_wp2_with fail
          (with_reducible refine (K3.out _ HB.out).mono ?_)
          rintro e w3 ⟨rfl, hb⟩
          have XE := Lib.hid ((hb.block w.heap.size hEl).trans XE.out); have hEl := Nat.lt_of_lt_of_le hEl hb.size
          have HB := Lib.hid (bt HB.out hb)
          clear hb K1 K2 K3
          go_upto_region 4 with (fail)
          obtain ⟨Y1, hY⟩ : ∃ W, w3.alloc (.cells #[.int .i64 304, .string ⟨#[]⟩, .int .i64 0, .slice R rep.length l, .string ⟨#[120]⟩] 24) = W := ⟨_, rfl⟩
          have hb : Below w3.heap.size w3 Y1 := by rw [← hY]; exact (Below.refl w3.heap.size w3).alloc (Nat.le_refl _) _
          have XQ : Hid (Y1.heap[w3.heap.size]? = some (.cells #[.int .i64 304, .string ⟨#[]⟩, .int .i64 0, .slice R rep.length l, .string ⟨#[120]⟩] 24 (0, 0))) := Lib.hid (by rw [← hY]; exact heap_new w3 _ _ rfl)
          have hQl := (of_heap XQ.out 0).2.2
          rw [hY]
          have XE := Lib.hid ((hb.block w.heap.size hEl).trans XE.out); have hEl := Nat.lt_of_lt_of_le hEl hb.size
          have HB := Lib.hid (bt HB.out hb)
          clear hb hY
          have c0 := (of_heap XE.out 0).1; have c1 := (of_heap XE.out 1).1; have c2 := (of_heap XE.out 2).1; have c3 := (of_heap XE.out 3).1; have c4 := (of_heap XE.out 4).1; have c5 := (of_heap XE.out 5).1; have c6 := (of_heap XE.out 6).1; have c7 := (of_heap XE.out 7).1
          simp only [List.getElem?_toArray, List.getElem?_cons_succ, List.getElem?_cons_zero] at c0 c1 c2 c3 c4 c5 c6 c7
          go_wp2_with fail
          (with_reducible refine (KN.out _ HB.out).mono ?_)
          rintro e u1 ⟨na, nc, nb, nd, rfl, on1, _, hb⟩
          have XE := Lib.hid ((hb.block w.heap.size hEl).trans XE.out); have hEl := Nat.lt_of_lt_of_le hEl hb.size
          have XQ := Lib.hid ((hb.block w3.heap.size hQl).trans XQ.out); have hQl := Nat.lt_of_lt_of_le hQl hb.size
          have HB := Lib.hid (bt HB.out hb)
          have RN := Lib.hid on1.rd.2
          clear hb on1 c0 c1 c2 c3 c4 c5 c6 c7
          unfold entV
          go_upto_region 5 with (fail)
          obtain ⟨Y2, hY⟩ : ∃ W, u1.alloc (.cells #[.int .i64 st, .string re, .int .i64 mi, .slice na dx.length nc, .string bo, .int .i64 1, .int .i64 2, .slice nb vs.length nd] 26) = W := ⟨_, rfl⟩
          have hb : Below u1.heap.size u1 Y2 := by rw [← hY]; exact (Below.refl u1.heap.size u1).alloc (Nat.le_refl _) _
          have XN : Hid (Y2.heap[u1.heap.size]? = some (.cells #[.int .i64 st, .string re, .int .i64 mi, .slice na dx.length nc, .string bo, .int .i64 1, .int .i64 2, .slice nb vs.length nd] 26 (0, 0))) := Lib.hid (by rw [← hY]; exact heap_new u1 _ _ rfl)
          have hNl := (of_heap XN.out 0).2.2
          rw [hY]
          have XE := Lib.hid ((hb.block w.heap.size hEl).trans XE.out); have hEl := Nat.lt_of_lt_of_le hEl hb.size
          have XQ := Lib.hid ((hb.block w3.heap.size hQl).trans XQ.out); have hQl := Nat.lt_of_lt_of_le hQl hb.size
          have RN := Lib.hid (RN.out.below hb)
          have HB := Lib.hid (bt HB.out hb)
          clear hb hY
          have hd0 : Below Y2.heap.size Y2 Y2.drew := (Below.refl _ _).drew
          have kc : ∀ w', Below Y2.heap.size Y2 w' → w'.cell? ⟨u1.heap.size, 3, none⟩ = some (.slice na dx.length nc) ∧ w'.cell? ⟨w.heap.size, 3, none⟩ = some (.slice A xs.length c) ∧ Below Y2.heap.size Y2 w' := fun w' hb => by
            have a3 := (of_heap ((hb.block u1.heap.size hNl).trans XN.out) 3).1
            have b3 := (of_heap ((hb.block w.heap.size hEl).trans XE.out) 3).1
            simp only [List.getElem?_toArray, List.getElem?_cons_succ, List.getElem?_cons_zero] at a3 b3
            exact ⟨a3, b3, hb⟩
          have KC := Lib.hid kc
          clear kc
          refine wp_region_held_drew (S := (fun w' => w'.cell? ⟨u1.heap.size, 3, none⟩ = some (.slice na dx.length nc) ∧ w'.cell? ⟨w.heap.size, 3, none⟩ = some (.slice A xs.length c) ∧ Below Y2.heap.size Y2 w')) (by kernel_rfl) (KC.out _ hd0) (fun hHeld => ?_)
          refine wpAnyH_take (i := 0) (v := ?_) (by simp only [List.getElem?_toArray, List.getElem?_cons_zero]; exact rfl) (by kernel_rfl) (by kernel_rfl) (by kernel_rfl) (by intro _ _ _ h; exact h) (Or.inl ⟨by rfl, fun W hSw => ?_⟩) hHeld ?_
          rotate_left
          focus ((try dsimp only at hSw); first | (go_simp; done) | (go_simp; with_reducible rfl))
          try simp only [Act.put, List.setIfInBounds_toArray, List.set_cons_zero, List.set_cons_succ]
          refine wpAnyH_take (i := 1) (v := ?_) (by simp only [List.getElem?_toArray, List.getElem?_cons_succ, List.getElem?_cons_zero]; exact rfl) (by kernel_rfl) (by kernel_rfl) (by kernel_rfl) (by intro _ _ _ h; exact h) (Or.inl ⟨by rfl, fun W hSw => ?_⟩) hHeld ?_
          rotate_left
          focus ((try dsimp only at hSw); first | (go_simp; done) | (go_simp; with_reducible rfl))
          try simp only [Act.put, List.setIfInBounds_toArray, List.set_cons_zero, List.set_cons_succ]
          refine wpAnyH_take (i := 2) (v := ?_) (by simp only [List.getElem?_toArray, List.getElem?_cons_succ, List.getElem?_cons_zero]; exact rfl) (by kernel_rfl) (by kernel_rfl) (by kernel_rfl) (by intro _ _ _ h; exact h) (Or.inl ⟨by rfl, fun W hSw => ?_⟩) hHeld ?_
          rotate_left
          focus ((try dsimp only at hSw); first | (go_simp; done) | (go_simp; with_reducible rfl))
          try simp only [Act.put, List.setIfInBounds_toArray, List.set_cons_zero, List.set_cons_succ]
          refine wpAnyH_take (i := 3) (v := ?_) (by simp only [List.getElem?_toArray, List.getElem?_cons_succ, List.getElem?_cons_zero]; exact rfl) (by kernel_rfl) (by kernel_rfl) (by kernel_rfl) (by intro _ _ _ h; exact h) (Or.inl ⟨by rfl, fun W hSw => ?_⟩) hHeld ?_
          rotate_left
          focus ((try dsimp only at hSw); first | (go_simp; done) | (go_simp; with_reducible rfl))
          try simp only [Act.put, List.setIfInBounds_toArray, List.set_cons_zero, List.set_cons_succ]
          refine wpAnyH_take (i := 4) (v := ?_) (by simp only [List.getElem?_toArray, List.getElem?_cons_succ, List.getElem?_cons_zero]; exact rfl) (by kernel_rfl) (by kernel_rfl) (by kernel_rfl) (by intro _ _ _ h; exact h) (Or.inl ⟨by rfl, fun W hSw => ?_⟩) hHeld ?_
          rotate_left
          focus ((try dsimp only at hSw); first | (go_simp; done) | (go_simp; with_reducible rfl))
          try simp only [Act.put, List.setIfInBounds_toArray, List.set_cons_zero, List.set_cons_succ]
          refine wpAnyH_take (i := 5) (v := ?_) (by simp only [List.getElem?_toArray, List.getElem?_cons_succ, List.getElem?_cons_zero]; exact rfl) (by kernel_rfl) (by kernel_rfl) (by kernel_rfl) (by intro _ _ _ h; exact h) (Or.inl ⟨by rfl, fun W hSw => ?_⟩) hHeld ?_
          rotate_left
          focus ((try dsimp only at hSw); first | (go_simp; done) | (go_simp; with_reducible rfl))
          try simp only [Act.put, List.setIfInBounds_toArray, List.set_cons_zero, List.set_cons_succ]
          refine wpAnyH_ready (rs := [6]) (by kernel_rfl) (by simp) (AllReadyH.cons (by simp only [List.getElem?_toArray, List.getElem?_cons_succ, List.getElem?_cons_zero]; exact rfl) (fun K hK => ?_) AllReadyH.nil)
          rw [if_pos (by rfl)]
          go_simp
          have hal1 : Below Y2.heap.size Y2 ((Y2.alloc (.cells #[.string ⟨#[97, 103, 101]⟩, .string ⟨#[100, 97, 116, 101]⟩] 9)).drew) := hd0.alloc hd0.size _
          refine hK.out _ _ (KC.out _ hal1) (fun hHeld => ?_)
          clear hK K
          try simp only [Act.put, List.setIfInBounds_toArray, List.set_cons_zero, List.set_cons_succ]
          refine wpAnyH_ready (rs := [7]) (by kernel_rfl) (by simp) (AllReadyH.cons (by simp only [List.getElem?_toArray, List.getElem?_cons_succ, List.getElem?_cons_zero]; exact rfl) (fun K hK => ?_) AllReadyH.nil)
          rw [if_pos (by rfl)]
          go_simp
          have hrd2 : Rd (some ⟨Y2.heap.size, 0, none⟩) 2 1 (strsV dated2) (Y2.alloc (.cells #[.string ⟨#[97, 103, 101]⟩, .string ⟨#[100, 97, 116, 101]⟩] 9)) := (OwnS.new Y2 dated2 (by decide)).rd.2; (with_reducible refine (KDEL.out (some ⟨Y2.heap.size, 0, none⟩) 2 _ (bt HB.out hal1) (hrd2.below (Below.refl _ _).drew)).mono ?_); clear hrd2; rintro e t1 ⟨da, dc, rfl, od, hb1⟩; have hd1 := bt hal1 hb1; have rd1 := od.rd.2; clear od; go_wp2_with fail
          refine hK.out _ _ (KC.out _ hd1) (fun hHeld => ?_)
          clear hK K
          try simp only [Act.put, List.setIfInBounds_toArray, List.set_cons_zero, List.set_cons_succ]
          refine wpAnyH_ready (rs := [8]) (by kernel_rfl) (by simp) (AllReadyH.cons (by simp only [List.getElem?_toArray, List.getElem?_cons_succ, List.getElem?_cons_zero]; exact rfl) (fun K hK => ?_) AllReadyH.nil)
          rw [if_pos (by rfl)]
          go_simp
          (with_reducible refine (samef04_any na dx.length nc dx da dx.length dc dx t1 (RN.out.below hd1) rd1 (by omega) (by omega)).mono ?_); rintro e t2 ⟨rfl, hb2⟩; have hd2 := bt hd1 hb2; go_wp2_with fail
          refine hK.out _ _ (KC.out _ hd2) (fun hHeld => ?_)
          clear hK K
          try simp only [Act.put, List.setIfInBounds_toArray, List.set_cons_zero, List.set_cons_succ]
          refine wpAnyH_take (i := 9) (v := ?_) (by simp only [List.getElem?_toArray, List.getElem?_cons_succ, List.getElem?_cons_zero]; exact rfl) (by kernel_rfl) (by kernel_rfl) (by kernel_rfl) (by intro _ _ _ h; exact h) (Or.inl ⟨by rfl, fun W hSw => ?_⟩) hHeld ?_
          rotate_left
          focus ((try dsimp only at hSw); first | (go_simp; done) | (go_simp; with_reducible rfl))
          try simp only [Act.put, List.setIfInBounds_toArray, List.set_cons_zero, List.set_cons_succ]
          refine wpAnyH_done (by kernel_rfl) ?_ _
          have hd3 := hd2
          try rw [hsd]
          have XE := Lib.hid ((hd3.block w.heap.size hEl).trans XE.out); have XQ := Lib.hid ((hd3.block w3.heap.size hQl).trans XQ.out); have hEl := Nat.lt_of_lt_of_le hEl hd3.size; have hQl := Nat.lt_of_lt_of_le hQl hd3.size
          have HB := Lib.hid (bt HB.out hd3)
          clear hHeld KC hd0 hd1 hd2 hd3 KN KDEL RN hb1 hb2 hal1
          have c0 := (of_heap XE.out 0).1; have c1 := (of_heap XE.out 1).1; have c2 := (of_heap XE.out 2).1; have c3 := (of_heap XE.out 3).1; have c4 := (of_heap XE.out 4).1; have c5 := (of_heap XE.out 5).1; have c6 := (of_heap XE.out 6).1; have c7 := (of_heap XE.out 7).1
          simp only [List.getElem?_toArray, List.getElem?_cons_succ, List.getElem?_cons_zero] at c0 c1 c2 c3 c4 c5 c6 c7
          have q0 := (of_heap XQ.out 0).1; have q1 := (of_heap XQ.out 1).1; have q2 := (of_heap XQ.out 2).1; have q3 := (of_heap XQ.out 3).1; have q4 := (of_heap XQ.out 4).1
          simp only [List.getElem?_toArray, List.getElem?_cons_succ, List.getElem?_cons_zero] at q0 q1 q2 q3 q4
          go_wp2_with fail
          (with_reducible refine (KA.out _ HB.out).mono ?_)
          rintro e u2 ⟨aa, ca, ab, db, rfl, oa1, oa2, hb⟩
          have XE := Lib.hid ((hb.block w.heap.size hEl).trans XE.out); have hEl := Nat.lt_of_lt_of_le hEl hb.size
          have XQ := Lib.hid ((hb.block w3.heap.size hQl).trans XQ.out); have hQl := Nat.lt_of_lt_of_le hQl hb.size
          have HB := Lib.hid (bt HB.out hb)
          have ra1 := oa1.rd.2; have ra2 := oa2.rd.2
          clear hb oa1 oa2 c0 c1 c2 c3 c4 c5 c6 c7 q0 q1 q2 q3 q4
          unfold entV
          go_upto_region 8 with (fail)
          obtain ⟨Y3, hY⟩ : ∃ W, u2.alloc (.cells #[.int .i64 st, .string re, .int .i64 mi, .slice aa xa.length ca, .string bo, .int .i64 1, .int .i64 2, .slice ab vs.length db] 26) = W := ⟨_, rfl⟩
          have hb : Below u2.heap.size u2 Y3 := by rw [← hY]; exact (Below.refl u2.heap.size u2).alloc (Nat.le_refl _) _
          have XA : Hid (Y3.heap[u2.heap.size]? = some (.cells #[.int .i64 st, .string re, .int .i64 mi, .slice aa xa.length ca, .string bo, .int .i64 1, .int .i64 2, .slice ab vs.length db] 26 (0, 0))) := Lib.hid (by rw [← hY]; exact heap_new u2 _ _ rfl)
          have hAl := (of_heap XA.out 0).2.2
          rw [hY]
          have XE := Lib.hid ((hb.block w.heap.size hEl).trans XE.out); have hEl := Nat.lt_of_lt_of_le hEl hb.size
          have XQ := Lib.hid ((hb.block w3.heap.size hQl).trans XQ.out); have hQl := Nat.lt_of_lt_of_le hQl hb.size
          have RA1 := Lib.hid (ra1.below hb); have RA2 := Lib.hid (ra2.below hb)
          have HB := Lib.hid (bt HB.out hb)
          clear hb hY ra1 ra2
          have g0 := (of_heap XA.out 0).1; have g1 := (of_heap XA.out 1).1; have g2 := (of_heap XA.out 2).1; have g3 := (of_heap XA.out 3).1; have g4 := (of_heap XA.out 4).1; have g5 := (of_heap XA.out 5).1; have g6 := (of_heap XA.out 6).1; have g7 := (of_heap XA.out 7).1
          simp only [List.getElem?_toArray, List.getElem?_cons_succ, List.getElem?_cons_zero] at g0 g1 g2 g3 g4 g5 g6 g7
          have q0 := (of_heap XQ.out 0).1; have q1 := (of_heap XQ.out 1).1; have q2 := (of_heap XQ.out 2).1; have q3 := (of_heap XQ.out 3).1; have q4 := (of_heap XQ.out 4).1
          simp only [List.getElem?_toArray, List.getElem?_cons_succ, List.getElem?_cons_zero] at q0 q1 q2 q3 q4
          go_wp2_with fail
          (with_reducible refine (KB.out _ _ _ _ _ HB.out RA1.out RA2.out).mono ?_)
          rintro e u3 ⟨ba, cb, bb, dbb, rfl, ob1, ob2, hb⟩
          have XE := Lib.hid ((hb.block w.heap.size hEl).trans XE.out); have hEl := Nat.lt_of_lt_of_le hEl hb.size
          have XA := Lib.hid ((hb.block u2.heap.size hAl).trans XA.out); have hAl := Nat.lt_of_lt_of_le hAl hb.size
          have RA1 := Lib.hid (RA1.out.below hb); have RA2 := Lib.hid (RA2.out.below hb)
          have HB := Lib.hid (bt HB.out hb)
          have rb1 := ob1.rd.2; have rb2 := ob2.rd.2
          clear hb ob1 ob2 g0 g1 g2 g3 g4 g5 g6 g7 q0 q1 q2 q3 q4 XQ
          unfold entV
          go_upto_region 9 with (fail)
          obtain ⟨Y4, hY⟩ : ∃ W, u3.alloc (.cells #[.int .i64 st, .string re, .int .i64 mi, .slice ba xa.length cb, .string bo, .int .i64 1, .int .i64 2, .slice bb vs.length dbb] 26) = W := ⟨_, rfl⟩
          have hb : Below u3.heap.size u3 Y4 := by rw [← hY]; exact (Below.refl u3.heap.size u3).alloc (Nat.le_refl _) _
          have XB : Hid (Y4.heap[u3.heap.size]? = some (.cells #[.int .i64 st, .string re, .int .i64 mi, .slice ba xa.length cb, .string bo, .int .i64 1, .int .i64 2, .slice bb vs.length dbb] 26 (0, 0))) := Lib.hid (by rw [← hY]; exact heap_new u3 _ _ rfl)
          have hBl := (of_heap XB.out 0).2.2
          rw [hY]
          have XE := Lib.hid ((hb.block w.heap.size hEl).trans XE.out); have hEl := Nat.lt_of_lt_of_le hEl hb.size
          have XA := Lib.hid ((hb.block u2.heap.size hAl).trans XA.out); have hAl := Nat.lt_of_lt_of_le hAl hb.size
          have RA1 := Lib.hid (RA1.out.below hb); have RA2 := Lib.hid (RA2.out.below hb)
          have HB := Lib.hid (bt HB.out hb)
          have KS := Lib.hid (same20_any st mi 1 2 re bo aa ab ba bb ca db cb dbb xa vs Y4 RA1.out RA2.out (rb1.below hb) (rb2.below hb) bxa (by omega))
          clear hb hY rb1 rb2
          have g0 := (of_heap XA.out 0).1; have g1 := (of_heap XA.out 1).1; have g2 := (of_heap XA.out 2).1; have g3 := (of_heap XA.out 3).1; have g4 := (of_heap XA.out 4).1; have g5 := (of_heap XA.out 5).1; have g6 := (of_heap XA.out 6).1; have g7 := (of_heap XA.out 7).1
          simp only [List.getElem?_toArray, List.getElem?_cons_succ, List.getElem?_cons_zero] at g0 g1 g2 g3 g4 g5 g6 g7
          have h0 := (of_heap XB.out 0).1; have h1 := (of_heap XB.out 1).1; have h2 := (of_heap XB.out 2).1; have h3 := (of_heap XB.out 3).1; have h4 := (of_heap XB.out 4).1; have h5 := (of_heap XB.out 5).1; have h6 := (of_heap XB.out 6).1; have h7 := (of_heap XB.out 7).1
          simp only [List.getElem?_toArray, List.getElem?_cons_succ, List.getElem?_cons_zero] at h0 h1 h2 h3 h4 h5 h6 h7
          go_wp2_with fail
          (with_reducible refine KS.out.mono ?_)
          rintro e u4 ⟨rfl, hb⟩
          have XE := Lib.hid ((hb.block w.heap.size hEl).trans XE.out); have hEl := Nat.lt_of_lt_of_le hEl hb.size
          have XA := Lib.hid ((hb.block u2.heap.size hAl).trans XA.out); have hAl := Nat.lt_of_lt_of_le hAl hb.size
          have RA1 := Lib.hid (RA1.out.below hb); have RA2 := Lib.hid (RA2.out.below hb)
          have HB := Lib.hid (bt HB.out hb)
          clear hb g0 g1 g2 g3 g4 g5 g6 g7 h0 h1 h2 h3 h4 h5 h6 h7 KS XB hBl
          have c0 := (of_heap XE.out 0).1; have c1 := (of_heap XE.out 1).1; have c2 := (of_heap XE.out 2).1; have c3 := (of_heap XE.out 3).1; have c4 := (of_heap XE.out 4).1; have c5 := (of_heap XE.out 5).1; have c6 := (of_heap XE.out 6).1; have c7 := (of_heap XE.out 7).1
          simp only [List.getElem?_toArray, List.getElem?_cons_succ, List.getElem?_cons_zero] at c0 c1 c2 c3 c4 c5 c6 c7
          have g0 := (of_heap XA.out 0).1; have g1 := (of_heap XA.out 1).1; have g2 := (of_heap XA.out 2).1; have g3 := (of_heap XA.out 3).1; have g4 := (of_heap XA.out 4).1; have g5 := (of_heap XA.out 5).1; have g6 := (of_heap XA.out 6).1; have g7 := (of_heap XA.out 7).1
          simp only [List.getElem?_toArray, List.getElem?_cons_succ, List.getElem?_cons_zero] at g0 g1 g2 g3 g4 g5 g6 g7
          have KS := Lib.hid (samef04_any ab vs.length db vs V vs.length d vs u4 RA2.out (HV.out.below HB.out) (by omega) (by omega))
          rw [hsv'] at KS
          have e1 : (bo.data.toList != bo.data.toList) = false := by simp
          have e2 : (st != st) = false := by simp
          go_wp2_with fail
          (with_reducible refine KS.out.mono ?_)
          rintro e u5 ⟨rfl, hb⟩
          have XE := Lib.hid ((hb.block w.heap.size hEl).trans XE.out); have hEl := Nat.lt_of_lt_of_le hEl hb.size
          have XA := Lib.hid ((hb.block u2.heap.size hAl).trans XA.out); have hAl := Nat.lt_of_lt_of_le hAl hb.size
          have RA1 := Lib.hid (RA1.out.below hb)
          have HB := Lib.hid (bt HB.out hb)
          clear hb c0 c1 c2 c3 c4 c5 c6 c7 g0 g1 g2 g3 g4 g5 g6 g7 KS RA2
          go_upto_region 12 with (fail)
          obtain ⟨Y5, hY⟩ : ∃ W, u5.alloc (.cells #[.string ⟨#[99, 111, 110, 116, 101, 110, 116, 45, 108, 101, 110, 103, 116, 104]⟩, .string ⟨#[99, 111, 110, 116, 101, 110, 116, 45, 116, 121, 112, 101]⟩, .string ⟨#[99, 111, 110, 116, 101, 110, 116, 45, 101, 110, 99, 111, 100, 105, 110, 103]⟩, .string ⟨#[99, 111, 110, 116, 101, 110, 116, 45, 114, 97, 110, 103, 101]⟩, .string ⟨#[118, 97, 114, 121]⟩] 9) = W := ⟨_, rfl⟩
          have hb : Below u5.heap.size u5 Y5 := by rw [← hY]; exact (Below.refl u5.heap.size u5).alloc (Nat.le_refl _) _
          have R5 : Hid (Rd (some ⟨u5.heap.size, 0, none⟩) 5 1 (strsV same5) Y5) := Lib.hid (by rw [← hY]; exact (OwnS.new u5 same5 (by decide)).rd.2)
          rw [hY]
          have XE := Lib.hid ((hb.block w.heap.size hEl).trans XE.out); have hEl := Nat.lt_of_lt_of_le hEl hb.size
          have XA := Lib.hid ((hb.block u2.heap.size hAl).trans XA.out); have hAl := Nat.lt_of_lt_of_le hAl hb.size
          have RA1 := Lib.hid (RA1.out.below hb)
          have HB := Lib.hid (bt HB.out hb)
          clear hb hY
          go_wp2_with fail
          go_loopw [12] (fun i wr => ∃ k : Nat, k ≤ 5 ∧ i = .int .i64 k ∧ Below Y5.heap.size Y5 wr) (fun i _ => 5 - (intOf i).toNat)
          case atStart => exact ⟨0, by omega, rfl, Below.refl _ _⟩
          case round =>
            obtain ⟨k, hk, rfl, hbw⟩ := hrel
            have hEw := Nat.lt_of_lt_of_le hEl hbw.size
            have hAw := Nat.lt_of_lt_of_le hAl hbw.size
            have XEw := Lib.hid ((hbw.block w.heap.size hEl).trans XE.out); have XAw := Lib.hid ((hbw.block u2.heap.size hAl).trans XA.out)
            have RAw := Lib.hid (RA1.out.below hbw)
            have HBw := Lib.hid (bt HB.out hbw)
            by_cases hlt : k < 5
            · obtain ⟨b, o, ee, hl, cn⟩ := (R5.out.below hbw).str_at (k := k) (show k < same5.length from hlt)
              cases ee
              obtain ⟨nm, hnme⟩ : ∃ l, same5[k]'(show k < same5.length from hlt) = l := ⟨_, rfl⟩
              have hmem : nm ∈ same5 := hnme ▸ List.getElem_mem _
              have hown := HOW.out nm (same5_own nm hmem)
              have hnl := same5_len nm hmem
              rw [hnme, Nat.zero_add] at cn
              have hsz : (⟨nm.toArray⟩ : ByteArray).size ≤ 1000000 := by rw [Lib.size_eq]; show nm.length ≤ _; omega
              have kva := fun W h1 => KVA.out aa ca ⟨nm.toArray⟩ W h1 hsz
              have kvo := fun W h1 => KVO.out ⟨nm.toArray⟩ W h1 hsz
              simp only at kva kvo
              rw [hown] at kva
              have hlv := HVLX.out nm
              generalize valuesL xs nm = lv at *
              have elv : (lv == lv) = true := by simp
              have KVA1 := Lib.hid kva; have KVO1 := Lib.hid kvo
              have j0 : (0 : Int) ≤ (k : Int) := by omega
              have j1 : (k : Int) < 5 := by omega
              have kc : ∀ w', Below wr.heap.size wr w' → w'.cell? ⟨u2.heap.size, 3, none⟩ = some (.slice aa xa.length ca) ∧ w'.cell? ⟨w.heap.size, 3, none⟩ = some (.slice A xs.length c) ∧ w'.cell? ⟨u5.heap.size, k, none⟩ = some (.string ⟨nm.toArray⟩) ∧ Below wr.heap.size wr w' := fun w' hb => by
                have a3 := (of_heap ((hb.block u2.heap.size hAw).trans XAw.out) 3).1
                have b3 := (of_heap ((hb.block w.heap.size hEw).trans XEw.out) 3).1
                simp only [List.getElem?_toArray, List.getElem?_cons_succ, List.getElem?_cons_zero] at a3 b3
                exact ⟨a3, b3, (hb.cell (p := ⟨u5.heap.size, k, none⟩) hl).trans cn, hb⟩
              have KC := Lib.hid kc
              have hd0 : Below wr.heap.size wr wr.drew := (Below.refl _ _).drew
              clear kc kva kvo hown hmem hnme hsz hnl KVA KVO KVR KLOW HOW HTO HDT HVLR HVLA HVLX
              go_upto_region 15 with (fail)
              refine wp_region_held_drew (S := (fun w' => w'.cell? ⟨u2.heap.size, 3, none⟩ = some (.slice aa xa.length ca) ∧ w'.cell? ⟨w.heap.size, 3, none⟩ = some (.slice A xs.length c) ∧ w'.cell? ⟨u5.heap.size, k, none⟩ = some (.string ⟨nm.toArray⟩) ∧ Below wr.heap.size wr w')) (by kernel_rfl) (KC.out _ hd0) (fun hHeld => ?_)
              refine wpAnyH_take (i := 0) (v := ?_) (by simp only [List.getElem?_toArray, List.getElem?_cons_zero]; exact rfl) (by kernel_rfl) (by kernel_rfl) (by kernel_rfl) (by intro _ _ _ h; exact h) (Or.inl ⟨by rfl, fun W hSw => ?_⟩) hHeld ?_
              rotate_left
              focus ((try dsimp only at hSw); first | (go_simp; done) | (go_simp; with_reducible rfl))
              try simp only [Act.put, List.setIfInBounds_toArray, List.set_cons_zero, List.set_cons_succ]
              refine wpAnyH_take (i := 1) (v := ?_) (by simp only [List.getElem?_toArray, List.getElem?_cons_succ, List.getElem?_cons_zero]; exact rfl) (by kernel_rfl) (by kernel_rfl) (by kernel_rfl) (by intro _ _ _ h; exact h) (Or.inl ⟨by rfl, fun W hSw => ?_⟩) hHeld ?_
              rotate_left
              focus ((try dsimp only at hSw); first | (go_simp; done) | (go_simp; with_reducible rfl))
              try simp only [Act.put, List.setIfInBounds_toArray, List.set_cons_zero, List.set_cons_succ]
              refine wpAnyH_take (i := 2) (v := ?_) (by simp only [List.getElem?_toArray, List.getElem?_cons_succ, List.getElem?_cons_zero]; exact rfl) (by kernel_rfl) (by kernel_rfl) (by kernel_rfl) (by intro _ _ _ h; exact h) (Or.inl ⟨by rfl, fun W hSw => ?_⟩) hHeld ?_
              rotate_left
              focus ((try dsimp only at hSw); first | (go_simp; done) | (go_simp; with_reducible rfl))
              try simp only [Act.put, List.setIfInBounds_toArray, List.set_cons_zero, List.set_cons_succ]
              refine wpAnyH_take (i := 3) (v := ?_) (by simp only [List.getElem?_toArray, List.getElem?_cons_succ, List.getElem?_cons_zero]; exact rfl) (by kernel_rfl) (by kernel_rfl) (by kernel_rfl) (by intro _ _ _ h; exact h) (Or.inl ⟨by rfl, fun W hSw => ?_⟩) hHeld ?_
              rotate_left
              focus ((try dsimp only at hSw); first | (go_simp; done) | (go_simp; with_reducible rfl))
              try simp only [Act.put, List.setIfInBounds_toArray, List.set_cons_zero, List.set_cons_succ]
              refine wpAnyH_take (i := 4) (v := ?_) (by simp only [List.getElem?_toArray, List.getElem?_cons_succ, List.getElem?_cons_zero]; exact rfl) (by kernel_rfl) (by kernel_rfl) (by kernel_rfl) (by intro _ _ _ h; exact h) (Or.inl ⟨by rfl, fun W hSw => ?_⟩) hHeld ?_
              rotate_left
              focus ((try dsimp only at hSw); first | (go_simp; done) | (go_simp; with_reducible rfl))
              try simp only [Act.put, List.setIfInBounds_toArray, List.set_cons_zero, List.set_cons_succ]
              refine wpAnyH_take (i := 5) (v := ?_) (by simp only [List.getElem?_toArray, List.getElem?_cons_succ, List.getElem?_cons_zero]; exact rfl) (by kernel_rfl) (by kernel_rfl) (by kernel_rfl) (by intro _ _ _ h; exact h) (Or.inl ⟨by rfl, fun W hSw => ?_⟩) hHeld ?_
              rotate_left
              focus ((try dsimp only at hSw); first | (go_simp; done) | (go_simp; with_reducible rfl))
              try simp only [Act.put, List.setIfInBounds_toArray, List.set_cons_zero, List.set_cons_succ]
              refine wpAnyH_take (i := 6) (v := ?_) (by simp only [List.getElem?_toArray, List.getElem?_cons_succ, List.getElem?_cons_zero]; exact rfl) (by kernel_rfl) (by kernel_rfl) (by kernel_rfl) (by intro _ _ _ h; exact h) (Or.inl ⟨by rfl, fun W hSw => ?_⟩) hHeld ?_
              rotate_left
              focus ((try dsimp only at hSw); first | (go_simp; done) | (go_simp; with_reducible rfl))
              try simp only [Act.put, List.setIfInBounds_toArray, List.set_cons_zero, List.set_cons_succ]
              refine wpAnyH_take (i := 8) (v := ?_) (by simp only [List.getElem?_toArray, List.getElem?_cons_succ, List.getElem?_cons_zero]; exact rfl) (by kernel_rfl) (by kernel_rfl) (by kernel_rfl) (by intro _ _ _ h; exact h) (Or.inl ⟨by rfl, fun W hSw => ?_⟩) hHeld ?_
              rotate_left
              focus ((try dsimp only at hSw); first | (go_simp; done) | (go_simp; with_reducible rfl))
              try simp only [Act.put, List.setIfInBounds_toArray, List.set_cons_zero, List.set_cons_succ]
              refine wpAnyH_take (i := 9) (v := ?_) (by simp only [List.getElem?_toArray, List.getElem?_cons_succ, List.getElem?_cons_zero]; exact rfl) (by kernel_rfl) (by kernel_rfl) (by kernel_rfl) (by intro _ _ _ h; exact h) (Or.inl ⟨by rfl, fun W hSw => ?_⟩) hHeld ?_
              rotate_left
              focus ((try dsimp only at hSw); first | (go_simp; done) | (go_simp; with_reducible rfl))
              try simp only [Act.put, List.setIfInBounds_toArray, List.set_cons_zero, List.set_cons_succ]
              refine wpAnyH_take (i := 10) (v := ?_) (by simp only [List.getElem?_toArray, List.getElem?_cons_succ, List.getElem?_cons_zero]; exact rfl) (by kernel_rfl) (by kernel_rfl) (by kernel_rfl) (by intro _ _ _ h; exact h) (Or.inl ⟨by rfl, fun W hSw => ?_⟩) hHeld ?_
              rotate_left
              focus ((try dsimp only at hSw); first | (go_simp; done) | (go_simp; with_reducible rfl))
              try simp only [Act.put, List.setIfInBounds_toArray, List.set_cons_zero, List.set_cons_succ]
              refine wpAnyH_take (i := 11) (v := ?_) (by simp only [List.getElem?_toArray, List.getElem?_cons_succ, List.getElem?_cons_zero]; exact rfl) (by kernel_rfl) (by kernel_rfl) (by kernel_rfl) (by intro _ _ _ h; exact h) (Or.inl ⟨by rfl, fun W hSw => ?_⟩) hHeld ?_
              rotate_left
              focus ((try dsimp only at hSw); first | (go_simp; done) | (go_simp; with_reducible rfl))
              try simp only [Act.put, List.setIfInBounds_toArray, List.set_cons_zero, List.set_cons_succ]
              refine wpAnyH_take (i := 12) (v := ?_) (by simp only [List.getElem?_toArray, List.getElem?_cons_succ, List.getElem?_cons_zero]; exact rfl) (by kernel_rfl) (by kernel_rfl) (by kernel_rfl) (by intro _ _ _ h; exact h) (Or.inl ⟨by rfl, fun W hSw => ?_⟩) hHeld ?_
              rotate_left
              focus ((try dsimp only at hSw); first | (go_simp; done) | (go_simp; with_reducible rfl))
              try simp only [Act.put, List.setIfInBounds_toArray, List.set_cons_zero, List.set_cons_succ]
              refine wpAnyH_take (i := 13) (v := ?_) (by simp only [List.getElem?_toArray, List.getElem?_cons_succ, List.getElem?_cons_zero]; exact rfl) (by kernel_rfl) (by kernel_rfl) (by kernel_rfl) (by intro _ _ _ h; exact h) (Or.inl ⟨by rfl, fun W hSw => ?_⟩) hHeld ?_
              rotate_left
              focus ((try dsimp only at hSw); first | (go_simp; done) | (go_simp; with_reducible rfl))
              try simp only [Act.put, List.setIfInBounds_toArray, List.set_cons_zero, List.set_cons_succ]
              refine wpAnyH_take (i := 14) (v := ?_) (by simp only [List.getElem?_toArray, List.getElem?_cons_succ, List.getElem?_cons_zero]; exact rfl) (by kernel_rfl) (by kernel_rfl) (by kernel_rfl) (by intro _ _ _ h; exact h) (Or.inl ⟨by rfl, fun W hSw => ?_⟩) hHeld ?_
              rotate_left
              focus ((try dsimp only at hSw); first | (go_simp; done) | (go_simp; with_reducible rfl))
              try simp only [Act.put, List.setIfInBounds_toArray, List.set_cons_zero, List.set_cons_succ]
              refine wpAnyH_ready (rs := [7]) (by kernel_rfl) (by simp) (AllReadyH.cons (by simp only [List.getElem?_toArray, List.getElem?_cons_succ, List.getElem?_cons_zero]; exact rfl) (fun K hK => ?_) AllReadyH.nil)
              rw [if_pos (by rfl)]
              go_simp
              (with_reducible refine (KVA1.out _ (RAw.out.below hd0)).mono ?_); rintro e v1 ⟨ta, tc, rfl, ot, hb1⟩; have hd1 := bt hd0 hb1; have rt := ot.rd.2; clear ot; go_wp2_with fail
              refine hK.out _ _ (KC.out _ hd1) (fun hHeld => ?_)
              clear hK K
              try simp only [Act.put, List.setIfInBounds_toArray, List.set_cons_zero, List.set_cons_succ]
              refine wpAnyH_ready (rs := [15]) (by kernel_rfl) (by simp) (AllReadyH.cons (by simp only [List.getElem?_toArray, List.getElem?_cons_succ, List.getElem?_cons_zero]; exact rfl) (fun K hK => ?_) AllReadyH.nil)
              rw [if_pos (by rfl)]
              go_simp
              (with_reducible refine (KVO1.out _ (bt HBw.out hd1)).mono ?_); rintro e v2 ⟨sa, sc, rfl, os, hb2⟩; have hd2 := bt hd1 hb2; have rs := os.rd.2; have rt := rt.below hb2; clear os; go_wp2_with fail
              refine hK.out _ _ (KC.out _ hd2) (fun hHeld => ?_)
              clear hK K
              try simp only [Act.put, List.setIfInBounds_toArray, List.set_cons_zero, List.set_cons_succ]
              refine wpAnyH_ready (rs := [16]) (by kernel_rfl) (by simp) (AllReadyH.cons (by simp only [List.getElem?_toArray, List.getElem?_cons_succ, List.getElem?_cons_zero]; exact rfl) (fun K hK => ?_) AllReadyH.nil)
              rw [if_pos (by rfl)]
              go_simp
              (with_reducible refine (texts04_any ta lv.length tc lv sa lv.length sc lv v2 rt rs (by omega) (by omega)).mono ?_); rintro e v3 ⟨rfl, hb3⟩; have hd3 := bt hd2 hb3; try rw [elv]; go_wp2_with fail
              refine hK.out _ _ (KC.out _ hd3) (fun hHeld => ?_)
              clear hK K
              try simp only [Act.put, List.setIfInBounds_toArray, List.set_cons_zero, List.set_cons_succ]
              refine wpAnyH_take (i := 17) (v := ?_) (by simp only [List.getElem?_toArray, List.getElem?_cons_succ, List.getElem?_cons_zero]; exact rfl) (by kernel_rfl) (by kernel_rfl) (by kernel_rfl) (by intro _ _ _ h; exact h) (Or.inl ⟨by rfl, fun W hSw => ?_⟩) hHeld ?_
              rotate_left
              focus ((try dsimp only at hSw); first | (go_simp; done) | (go_simp; with_reducible rfl))
              try simp only [Act.put, List.setIfInBounds_toArray, List.set_cons_zero, List.set_cons_succ]
              refine wpAnyH_done (by kernel_rfl) ?_ _
              clear hHeld KC
              have hB6 := hbw.trans (hd3.mono hbw.size)
              go_wp2
              go_roundw
              case rel => exact ⟨k + 1, by omega, by go_num, hB6⟩
              case measure => simp [intOf]; omega
            · have hke : k = 5 := by omega
              subst hke
              have g3 := (of_heap XAw.out 3).1; have c3 := (of_heap XEw.out 3).1
              simp only [List.getElem?_toArray, List.getElem?_cons_succ, List.getElem?_cons_zero] at g3 c3
              have hto := HTO.out; have hdt := HDT.out
              have hla := HVLA.out name.data.toList; have hlx := HVLX.out name.data.toList; have hlr := HVLR.out
              have kva := fun W h1 => KVA.out aa ca name W h1 (by omega)
              have kvo := fun W h1 => KVO.out name W h1 (by omega)
              have kvr := KVR.out
              have klow := KLOW.out
              generalize valuesL xa name.data.toList = lt at *
              generalize valuesL xs name.data.toList = lk at *
              generalize valuesL rep name.data.toList = lb at *
              generalize hasL dated2 name.data.toList = dt at *
              generalize lowerL name.data.toList = ln at *
              have KVA1 := Lib.hid kva; have KVO1 := Lib.hid kvo; have KVR1 := Lib.hid kvr; have KLOW1 := Lib.hid klow
              have HTO1 := Lib.hid hto; have HDT1 := Lib.hid hdt
              clear kva kvo kvr klow hto hdt KVA KVO KVR KLOW HOW HTO HDT HVLR HVLA HVLX hlt
              go_wp2_with fail
              (with_reducible refine (KVA1.out _ RAw.out).mono ?_)
              rintro e v1 ⟨ta, tc, rfl, ot, hb1⟩
              have HB1 := Lib.hid (bt HBw.out hb1)
              have RT := Lib.hid ot.rd.2
              have c3' := (hb1.cell (p := ⟨w.heap.size, 3, none⟩) hEw).trans c3
              clear c3 g3 hb1 ot
              go_wp2_with fail
              (with_reducible refine (KVR1.out _ HB1.out).mono ?_)
              rintro e v2 ⟨sa, sc, rfl, os, hb2⟩
              have HB2 := Lib.hid (bt HB1.out hb2)
              have RT := Lib.hid (RT.out.below hb2); have RS := Lib.hid os.rd.2
              have c3 := (hb2.cell (p := ⟨w.heap.size, 3, none⟩) (World.block_lt_of_cell? v1 _ c3')).trans c3'
              clear c3' hb2 os
              go_wp2_with fail
              (with_reducible refine (KVO1.out _ HB2.out).mono ?_)
              rintro e v3 ⟨qa, qc, rfl, oq, hb3⟩
              have HB3 := Lib.hid (bt HB2.out hb3)
              have RT := Lib.hid (RT.out.below hb3); have RS := Lib.hid (RS.out.below hb3); have RQ := Lib.hid oq.rd.2
              clear c3 hb3 oq HB1 HB2
              cases hA : (ln == [97, 103, 101])
              · cases hBd : (ln == [100, 97, 116, 101])
                · have hdf : dt = false := by rw [HDT1.out, hA, hBd]; rfl
                  go_wp2_with fail
                  (with_reducible refine (KLOW1.out _).mono ?_)
                  rintro e v4 ⟨rfl, hb4⟩
                  have HB4 := Lib.hid (bt HB3.out hb4)
                  have RT := Lib.hid (RT.out.below hb4); have RS := Lib.hid (RS.out.below hb4); have RQ := Lib.hid (RQ.out.below hb4)
                  clear hb4
                  go_wp2_with fail
                  (with_reducible refine (KLOW1.out _).mono ?_)
                  rintro e v5 ⟨rfl, hb5⟩
                  have HB5 := Lib.hid (bt HB4.out hb5)
                  have RT := Lib.hid (RT.out.below hb5); have RS := Lib.hid (RS.out.below hb5); have RQ := Lib.hid (RQ.out.below hb5)
                  clear hb5
                  have KT1 := Lib.hid (texts04_any ta lt.length tc lt sa lb.length sc lb v5 RT.out RS.out (by omega) (by omega))
                  have KT2 := Lib.hid (fun W h1 h2 => texts04_any ta lt.length tc lt qa lk.length qc lk W h1 h2 (by omega) (by omega))
                  cases hTB : (lt == lb)
                  · cases hTK : (lt == lk)
                    · exfalso
                      have := HTO1.out
                      rw [hdf] at this
                      rcases this with h | h | h
                      · rw [h] at hTB; simp at hTB
                      · rw [h] at hTK; simp at hTK
                      · cases h.1
                    · rw [hTB] at KT1
                      go_wp2_with fail
                      (with_reducible refine KT1.out.mono ?_)
                      rintro e v6 ⟨rfl, hb6⟩
                      have HB6 := Lib.hid (bt HB5.out hb6)
                      have kt := KT2.out v6 (RT.out.below hb6) (RQ.out.below hb6)
                      rw [hTK] at kt
                      have KT3 := Lib.hid kt
                      clear kt hb6
                      go_wp2_with fail
                      (with_reducible refine KT3.out.mono ?_)
                      rintro e v7 ⟨rfl, hb7⟩
                      have HB7 := Lib.hid (bt HB6.out hb7)
                      go_wp2_with fail
                      (with_reducible refine (HWK.out _ HB7.out).mono ?_)
                      rintro e v8 ⟨rfl, hb8⟩
                      go_wp2
                      go_ret
                      exact ⟨rfl, bt HB7.out hb8⟩
                  · rw [hTB] at KT1
                    go_wp2_with fail
                    (with_reducible refine KT1.out.mono ?_)
                    rintro e v6 ⟨rfl, hb6⟩
                    have HB6 := Lib.hid (bt HB5.out hb6)
                    go_wp2_with fail
                    (with_reducible refine (HWK.out _ HB6.out).mono ?_)
                    rintro e v8 ⟨rfl, hb8⟩
                    go_wp2
                    go_ret
                    exact ⟨rfl, bt HB6.out hb8⟩
                · skip
                  go_wp2_with fail
                  (with_reducible refine (KLOW1.out _).mono ?_)
                  rintro e v4 ⟨rfl, hb4⟩
                  have HB4 := Lib.hid (bt HB3.out hb4)
                  have RT := Lib.hid (RT.out.below hb4); have RS := Lib.hid (RS.out.below hb4); have RQ := Lib.hid (RQ.out.below hb4)
                  clear hb4
                  go_wp2_with fail
                  (with_reducible refine (KLOW1.out _).mono ?_)
                  rintro e v5 ⟨rfl, hb5⟩
                  have HB5 := Lib.hid (bt HB4.out hb5)
                  have RT := Lib.hid (RT.out.below hb5); have RS := Lib.hid (RS.out.below hb5); have RQ := Lib.hid (RQ.out.below hb5)
                  clear hb5
                  have KT1 := Lib.hid (texts04_any ta lt.length tc lt sa lb.length sc lb v5 RT.out RS.out (by omega) (by omega))
                  have KT2 := Lib.hid (fun W h1 h2 => texts04_any ta lt.length tc lt qa lk.length qc lk W h1 h2 (by omega) (by omega))
                  cases hTB : (lt == lb)
                  · cases hTK : (lt == lk)
                    · have hnil : lt = [] := by
                        rcases HTO1.out with h | h | h
                        · rw [h] at hTB; simp at hTB
                        · rw [h] at hTK; simp at hTK
                        · exact h.2
                      have e0 : ((lt.length : Int) == 0) = true := by rw [hnil]; rfl
                      clear hnil
                      rw [hTB] at KT1
                      go_wp2_with fail
                      (with_reducible refine KT1.out.mono ?_)
                      rintro e v6 ⟨rfl, hb6⟩
                      have HB6 := Lib.hid (bt HB5.out hb6)
                      have kt := KT2.out v6 (RT.out.below hb6) (RQ.out.below hb6)
                      rw [hTK] at kt
                      have KT3 := Lib.hid kt
                      clear kt hb6
                      go_wp2_with fail
                      (with_reducible refine KT3.out.mono ?_)
                      rintro e v7 ⟨rfl, hb7⟩
                      have HB7 := Lib.hid (bt HB6.out hb7)
                      go_wp2_with fail
                      (with_reducible refine (HWK.out _ HB7.out).mono ?_)
                      rintro e v8 ⟨rfl, hb8⟩
                      go_wp2
                      go_ret
                      exact ⟨rfl, bt HB7.out hb8⟩
                    · rw [hTB] at KT1
                      go_wp2_with fail
                      (with_reducible refine KT1.out.mono ?_)
                      rintro e v6 ⟨rfl, hb6⟩
                      have HB6 := Lib.hid (bt HB5.out hb6)
                      have kt := KT2.out v6 (RT.out.below hb6) (RQ.out.below hb6)
                      rw [hTK] at kt
                      have KT3 := Lib.hid kt
                      clear kt hb6
                      go_wp2_with fail
                      (with_reducible refine KT3.out.mono ?_)
                      rintro e v7 ⟨rfl, hb7⟩
                      have HB7 := Lib.hid (bt HB6.out hb7)
                      go_wp2_with fail
                      (with_reducible refine (HWK.out _ HB7.out).mono ?_)
                      rintro e v8 ⟨rfl, hb8⟩
                      go_wp2
                      go_ret
                      exact ⟨rfl, bt HB7.out hb8⟩
                  · rw [hTB] at KT1
                    go_wp2_with fail
                    (with_reducible refine KT1.out.mono ?_)
                    rintro e v6 ⟨rfl, hb6⟩
                    have HB6 := Lib.hid (bt HB5.out hb6)
                    go_wp2_with fail
                    (with_reducible refine (HWK.out _ HB6.out).mono ?_)
                    rintro e v8 ⟨rfl, hb8⟩
                    go_wp2
                    go_ret
                    exact ⟨rfl, bt HB6.out hb8⟩
              · skip
                have HB4 := HB3
                go_wp2_with fail
                (with_reducible refine (KLOW1.out _).mono ?_)
                rintro e v4 ⟨rfl, hb4⟩
                have HB5 := Lib.hid (bt HB3.out hb4)
                have RT := Lib.hid (RT.out.below hb4); have RS := Lib.hid (RS.out.below hb4); have RQ := Lib.hid (RQ.out.below hb4)
                obtain ⟨v5, hv5⟩ : ∃ v5 : World, v5 = v4 := ⟨_, rfl⟩
                subst hv5
                clear hb4
                have KT1 := Lib.hid (texts04_any ta lt.length tc lt sa lb.length sc lb v5 RT.out RS.out (by omega) (by omega))
                have KT2 := Lib.hid (fun W h1 h2 => texts04_any ta lt.length tc lt qa lk.length qc lk W h1 h2 (by omega) (by omega))
                cases hTB : (lt == lb)
                · cases hTK : (lt == lk)
                  · have hnil : lt = [] := by
                      rcases HTO1.out with h | h | h
                      · rw [h] at hTB; simp at hTB
                      · rw [h] at hTK; simp at hTK
                      · exact h.2
                    have e0 : ((lt.length : Int) == 0) = true := by rw [hnil]; rfl
                    clear hnil
                    rw [hTB] at KT1
                    go_wp2_with fail
                    (with_reducible refine KT1.out.mono ?_)
                    rintro e v6 ⟨rfl, hb6⟩
                    have HB6 := Lib.hid (bt HB5.out hb6)
                    have kt := KT2.out v6 (RT.out.below hb6) (RQ.out.below hb6)
                    rw [hTK] at kt
                    have KT3 := Lib.hid kt
                    clear kt hb6
                    go_wp2_with fail
                    (with_reducible refine KT3.out.mono ?_)
                    rintro e v7 ⟨rfl, hb7⟩
                    have HB7 := Lib.hid (bt HB6.out hb7)
                    go_wp2_with fail
                    (with_reducible refine (HWK.out _ HB7.out).mono ?_)
                    rintro e v8 ⟨rfl, hb8⟩
                    go_wp2
                    go_ret
                    exact ⟨rfl, bt HB7.out hb8⟩
                  · rw [hTB] at KT1
                    go_wp2_with fail
                    (with_reducible refine KT1.out.mono ?_)
                    rintro e v6 ⟨rfl, hb6⟩
                    have HB6 := Lib.hid (bt HB5.out hb6)
                    have kt := KT2.out v6 (RT.out.below hb6) (RQ.out.below hb6)
                    rw [hTK] at kt
                    have KT3 := Lib.hid kt
                    clear kt hb6
                    go_wp2_with fail
                    (with_reducible refine KT3.out.mono ?_)
                    rintro e v7 ⟨rfl, hb7⟩
                    have HB7 := Lib.hid (bt HB6.out hb7)
                    go_wp2_with fail
                    (with_reducible refine (HWK.out _ HB7.out).mono ?_)
                    rintro e v8 ⟨rfl, hb8⟩
                    go_wp2
                    go_ret
                    exact ⟨rfl, bt HB7.out hb8⟩
                · rw [hTB] at KT1
                  go_wp2_with fail
                  (with_reducible refine KT1.out.mono ?_)
                  rintro e v6 ⟨rfl, hb6⟩
                  have HB6 := Lib.hid (bt HB5.out hb6)
                  go_wp2_with fail
                  (with_reducible refine (HWK.out _ HB6.out).mono ?_)
                  rintro e v8 ⟨rfl, hb8⟩
                  go_wp2
                  go_ret
                  exact ⟨rfl, bt HB6.out hb8⟩
end Go.Proofs.YtgmmjhcklhajiaaDoor
/- RefreshAgain: the law as it is handed in. -/
namespace Go.Proofs.YtgmmjhcklhajiaaDoor
open Go.RowKit Go.ChangeShapes Go.WideShapes
set_option maxRecDepth 100000

theorem refreshAgain_law {H : Type} {enc : TypeId × Value → H} {W : World} {base0 base1 : Nat}
    (v0 : Value) (hv0 : Value.okWide Tryd.prog W .any base0 26 v0) {d0 : DataW H} {p0 : List MemPlace} (h0 : DataW.Trod enc Tryd.prog W 0 (fun _ => true) true 26 v0 d0 p0) (hr0 : Reach 26 d0)
    (v1 : Value) (hv1 : Value.okWide Tryd.prog W .any base1 22 v1) {d1 : DataW H} {p1 : List MemPlace} (h1 : DataW.Trod enc Tryd.prog W 0 (fun _ => true) true 22 v1 d1 p1) (hr1 : Reach 22 d1) (name : ByteArray)
    (w : World) (hw : w = W) (hE : DEnv W) :
    Calls Tryd.prog 3 #[v0, v1, .string name] w fun e w' => e = .returned (.bool true) ∧ Below w.heap.size w w' := by
  subst hw
  obtain ⟨st, re, mi, A, n, c, bo, xs, asd, gt, va, vn, vc, es, rfl, ⟨hR, hn, hl, _, _⟩, _, _, hV, hvn, hvl⟩ := open_entry hv0 h0 hr0
  obtain ⟨R, k, l, rep, rfl, hQ, hk, hql⟩ := open_flds_v hv1 h1 hr1
  have hrb : reachBytes ≤ 140737488355328 := by decide
  exact refreshAgain_any st mi asd gt re bo A va R n c vn vc k l xs es rep name w hE hR hV hQ (by omega) (by omega) (by omega) (fun f hf => by have := hl f hf; omega) (fun f hf => by have := hvl f hf; omega) (fun f hf => by have := hql f hf; omega)
end Go.Proofs.YtgmmjhcklhajiaaDoor
