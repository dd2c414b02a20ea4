/- Joined out of the texts SurOf, Date1, Date2, Date3, Date4, DateOk (wip/tools/merge.py). -/
import Derived.Test.YtgmmjhcklhajiaaGreatDoorPa2
import Derived.Deep.RegionHeld3
import Derived.Test.YtgmmjhcklhajiaaGreatDoorShelf
import Derived.RegionTactic
import Derived.BigRegion
/- The walk of surctl.Of (printed by wip/tools/surof.py). -/
namespace Go.Proofs.YtgmmjhcklhajiaaGreatDoor
open Go.RowKit
set_option maxRecDepth 100000

theorem rules_any (w : World) :
    Calls Tryz.prog 129 #[] w fun e w' => e = .returned (.slice (some ⟨w.heap.size, 0, none⟩) 4 4) ∧ w' = w.alloc (.cells #[.string ⟨#[110, 111, 45, 115, 116, 111, 114, 101]⟩, .func (.func 175) #[] #[], .string ⟨#[110, 111, 45, 115, 116, 111, 114, 101, 45, 114, 101, 109, 111, 116, 101]⟩, .func (.func 176) #[] #[], .string ⟨#[99, 111, 110, 116, 101, 110, 116]⟩, .func (.func 177) #[] #[], .string ⟨#[109, 97, 120, 45, 97, 103, 101]⟩, .func (.func 179) #[] #[]] 151) := by
  go_enter Tryz.func129, Tryz.ntmps129
  go_wp2
  go_ret
  exact ⟨rfl, rfl⟩
set_option maxHeartbeats 4000000 in
theorem of1_any (V : Nat) (nm : List UInt8) (d : Dir) (w : World) (hV : w.cell? ⟨V, 0, none⟩ = some (.string ⟨nm.toArray⟩)) (hVw : V < w.heap.size) :
    Calls Tryz.prog 131 #[.agg #[.string ⟨d.name.toArray⟩, .string ⟨d.value.toArray⟩, .bool d.has, .string ⟨d.for_.toArray⟩], .pointer (some ⟨V, 0, none⟩)] w fun e w' => e = .returned (.bool (d.name == nm)) ∧ Below w.heap.size w w' := by
  obtain ⟨dn, dv, dh, df⟩ := d
  simp only
  have hal := (Below.refl w.heap.size w).alloc (Nat.le_refl _) (.cells #[.string ⟨dn.toArray⟩, .string ⟨dv.toArray⟩, .bool dh, .string ⟨df.toArray⟩] 90)
  have hV2 := (hal.cell (p := ⟨V, 0, none⟩) hVw).trans hV
  go_enter Tryz.func131, Tryz.ntmps131
  go_wp2
  go_ret
  exact ⟨rfl, hal⟩

set_option maxHeartbeats 4000000 in
theorem indexOf_any (p1 : Value) (q : Dir → Bool) (A : Option Addr) (n c : Nat) (xs : List Dir) (w : World) (hr : Rd A n 4 (dirsV xs) w) (hn : n ≤ 1000000)
    (hc : ∀ d ∈ xs, ∀ W, Below w.heap.size w W → Calls Tryz.prog 131 #[.agg #[.string ⟨d.name.toArray⟩, .string ⟨d.value.toArray⟩, .bool d.has, .string ⟨d.for_.toArray⟩], p1] W fun e W' => e = .returned (.bool (q d)) ∧ Below W.heap.size W W') :
    Calls Tryz.prog 130 #[.slice A n c, .func (.func 131) #[] #[p1]] w fun e w' => e = .returned (.int .i64 (firstI q xs)) ∧ Below w.heap.size w w' := by
  obtain rfl := hr.dir
  have hstep := fun k (h : k < xs.length) => @find_take_none xs q k h
  have hhit : ∀ k (h : k < xs.length), (xs.take k).find? q = none → q xs[k] = true → firstI q xs = k := by
    intro k h hno hp
    unfold firstI
    rw [show xs.findIdx? q = some k from by
      rw [List.findIdx?_eq_some_iff_getElem]
      refine ⟨h, hp, fun j hj => ?_⟩
      rw [List.find?_eq_none] at hno
      refine hno xs[j] ?_
      rw [List.mem_take_iff_getElem]
      exact ⟨j, by omega, rfl⟩]
  have hend : ∀ k, k = xs.length → (xs.take k).find? q = none → firstI q xs = -1 := by
    intro k hk h
    subst hk
    rw [List.take_length] at h
    unfold firstI
    rw [show xs.findIdx? q = none from by
      rw [List.findIdx?_eq_none_iff]
      rw [List.find?_eq_none] at h
      intro x hx'; simpa using h x hx']
  generalize firstI q xs = out at *
  have HR := Lib.hid hr; have HS := Lib.hid hstep; have HH := Lib.hid hhit; have HE := Lib.hid hend; have HC := Lib.hid hc
  clear hr hstep hhit hend hc
  go_enter Tryz.func130, Tryz.ntmps130
  go_wp2_with fail
  go_loopw [8] (fun i wr => ∃ k : Nat, k ≤ xs.length ∧ i = .int .i64 k ∧ Hid ((xs.take k).find? q = none) ∧ Below w.heap.size w wr) (fun i _ => xs.length - (intOf i).toNat)
  case atStart => exact ⟨0, Nat.zero_le _, rfl, Lib.hid (by simp), Below.refl _ _⟩
  case round =>
    obtain ⟨k, hk, rfl, HN, hbr⟩ := hrel
    by_cases hlt : k < xs.length
    · obtain ⟨b, o, rfl, hl, x0, x1, x2, x3⟩ := (HR.out.below hbr).dir_at (k := k) hlt
      have hst := HS.out k hlt HN.out
      have hht := HH.out k hlt HN.out
      have k1 := HC.out xs[k] (List.getElem_mem _) wr hbr
      generalize xs[k] = d at *
      obtain ⟨dn, dv, dh, df⟩ := d
      simp only at x0 x1 x2 x3 k1
      cases hq : q ⟨dn, dv, dh, df⟩
      · rw [hq] at k1
        have HN2 := Lib.hid (hst hq)
        have K1 := Lib.hid k1
        clear hst hht k1 hq HS HH HE HN HC
        go_wp2_with fail
        refine K1.out.mono ?_
        rintro e w1 ⟨rfl, hb1⟩
        have hB1 := hbr.trans (hb1.mono hbr.size)
        go_wp2
        go_roundw
        case rel => exact ⟨k + 1, by omega, by go_num, HN2, hB1⟩
        case measure => simp [intOf]; omega
      · rw [hq] at k1
        have ho := hht hq
        subst ho
        have K1 := Lib.hid k1
        clear hst hht k1 hq HS HH HE HN HC
        go_wp2_with fail
        refine K1.out.mono ?_
        rintro e w1 ⟨rfl, hb1⟩
        have hB1 := hbr.trans (hb1.mono hbr.size)
        go_wp2
        go_ret
        exact ⟨rfl, hB1⟩
    · have ho := HE.out k (by omega) HN.out
      subst ho
      clear HS HH HE HN HC
      go_wp2
      go_ret
      exact ⟨rfl, hbr⟩

def ctlV (k : Ctl) : Value := .agg #[.bool k.noStore, .bool k.noRemote, .bool k.esi, .bool k.hasAge, .int .i64 k.age, .int .i64 k.extra]
def ctlTo (l : List Dir) : Nat → Ctl
  | 0 => ⟨false, false, false, false, 0, 0⟩
  | 1 => ⟨(firstV l noStore).isSome, false, false, false, 0, 0⟩
  | 2 => ⟨(firstV l noStore).isSome, (firstV l sRemote).isSome, false, false, 0, 0⟩
  | 3 => ⟨(firstV l noStore).isSome, (firstV l sRemote).isSome, match firstV l sContent with | some v => wordP sESI [] v | none => false, false, 0, 0⟩
  | _ => ctlL l
theorem first_none {l : List Dir} {nm : List UInt8} (h : l.find? (fun d => d.name == nm) = none) : firstV l nm = none := by unfold firstV; rw [h]; rfl
theorem first_some {l : List Dir} {nm : List UInt8} {d : Dir} (h : l.find? (fun d => d.name == nm) = some d) : firstV l nm = some d.value := by unfold firstV; rw [h]; rfl
theorem Rd.below2 {A : Option Addr} {n size C : Nat} {xs : List Value} {w w' : World} (h : Rd A n size xs w) (hb : Beside C w w') (hC : ∀ b o, A = some ⟨b, o, none⟩ → b ≠ C) : Rd A n size xs w' := by
  refine ⟨h.1, fun hn => ?_⟩
  obtain ⟨b, o, e, hl, hc⟩ := h.2 hn
  exact ⟨b, o, e, Nat.lt_of_lt_of_le hl hb.size, fun j u hu => (hb.cell (o + j) hl (hC b o e)).trans (hc j u hu)⟩
set_option maxHeartbeats 16000000 in
theorem surOf_any (A : Option Addr) (n c : Nat) (vs : List (List UInt8)) (dev : ByteArray) (w : World) (hM : MaxL w) (hr : Rd A n 1 (strsV vs) w) (hn : n ≤ 10000) (hl : ∀ v ∈ vs, v.length ≤ 900000) :
    Calls Tryz.prog 72 #[.slice A n c, .string dev] w fun e w' => e = .returned (ctlV (ofL vs dev.data.toList)) ∧ Below w.heap.size w w' := by
  obtain rfl := hr.str
  obtain ⟨W0, hW0⟩ : ∃ W0, w.alloc (.cells #[.bool false, .bool false, .bool false, .bool false, .int .i64 0, .int .i64 0] 94) = W0 := ⟨_, rfl⟩
  have hB0 : Below w.heap.size w W0 := by rw [← hW0]; exact (Below.refl _ w).alloc (Nat.le_refl _) _
  have hC0 : CtlAt w.heap.size ⟨false, false, false, false, 0, 0⟩ W0 := by rw [← hW0]; exact World.alloc_heap_new w _
  have z0 : W0.heap.size = w.heap.size + 1 := by rw [← hW0]; simp
  have hCg : 3 < w.heap.size := hM.1
  have k1 := surList_any A vs.length c vs W0 (hM.below hB0) (hr.below hB0) hn (fun v hv => by have := hl v hv; omega)
  have hsl := slist_le vs
  have hdl0 := slist_dirle (B := 900000) hl
  have hofl : ofL vs dev.data.toList = ctlL (mineL (slistL vs) dev.data.toList) := rfl
  rw [hofl]
  have hml : (mineL (slistL vs) dev.data.toList).length ≤ (slistL vs).length := List.length_filter_le _ _
  have hdl : ∀ d ∈ mineL (slistL vs) dev.data.toList, d.value.length ≤ 1000000 := fun d hd => by
    have := (hdl0 d (List.mem_filter.1 hd).1).2.1; omega
  have k2 := fun a c W (h : Rd a (slistL vs).length 4 (dirsV (slistL vs)) W) => mine_any a (slistL vs).length c (slistL vs) dev W h (by omega)
  generalize mineL (slistL vs) dev.data.toList = ls at *
  generalize slistL vs = l0 at *
  have hls : ls.length ≤ 1000000 := by omega
  have hct4 : ctlTo ls 4 = ctlL ls := rfl
  rw [← hct4]
  have K1 := Lib.hid k1; have K2 := Lib.hid k2; have HW0 := Lib.hid hW0; have HC0 := Lib.hid hC0; have HDL := Lib.hid hdl; have HM0 := Lib.hid (hM.below hB0)
  have HZ0 := Lib.hid z0
  have hCl0 : w.heap.size < W0.heap.size := by omega
  clear z0
  clear k1 k2 hW0 hC0 hdl hdl0 hM hr hofl hml hsl hct4 hl
  go_enter Tryz.func72, Tryz.ntmps72
  go_wp2_with fail
  rw [HW0.out]
  (with_reducible refine K1.out.mono ?_)
  rintro e w1 ⟨a1, c1, rfl, ho1, hb1⟩
  have R1 := Lib.hid ho1.rd.2
  clear ho1
  go_wp2_with fail
  (with_reducible refine (K2.out _ _ _ R1.out).mono ?_)
  rintro e w2 ⟨la, lc, rfl, ho2, hb2⟩
  have hB2 := bt hb1 hb2
  have hnc : ∀ b o, la = some ⟨b, o, none⟩ → b ≠ w.heap.size := fun b o e => by
    have := own_new ho2 b o e
    have := hb1.size
    have := HZ0.out
    omega
  have HNC := Lib.hid hnc
  have R2 := Lib.hid ho2.rd.2
  clear ho2 hnc R1 K1 K2
  go_wp2_with fail
  (with_reducible refine (rules_any _).mono ?_)
  rintro e w3 ⟨rfl, hw3⟩
  have hb3 : Below w2.heap.size w2 w3 := by rw [hw3]; exact (Below.refl _ w2).alloc (Nat.le_refl _) _
  have hz3 : w3.heap.size = w2.heap.size + 1 := by rw [hw3]; simp
  have hR0a : w3.cell? ⟨w2.heap.size, 0, none⟩ = some (.string ⟨#[110, 111, 45, 115, 116, 111, 114, 101]⟩) := by rw [hw3]; exact World.cell?_alloc_mark w2 _ _ _ 0
  have hR0b : w3.cell? ⟨w2.heap.size, 1, none⟩ = some (.func (.func 175) #[] #[]) := by rw [hw3]; exact World.cell?_alloc_mark w2 _ _ _ 1
  have HR0a := Lib.hid hR0a; have HR0b := Lib.hid hR0b
  have hR1a : w3.cell? ⟨w2.heap.size, 2, none⟩ = some (.string ⟨#[110, 111, 45, 115, 116, 111, 114, 101, 45, 114, 101, 109, 111, 116, 101]⟩) := by rw [hw3]; exact World.cell?_alloc_mark w2 _ _ _ 2
  have hR1b : w3.cell? ⟨w2.heap.size, 3, none⟩ = some (.func (.func 176) #[] #[]) := by rw [hw3]; exact World.cell?_alloc_mark w2 _ _ _ 3
  have HR1a := Lib.hid hR1a; have HR1b := Lib.hid hR1b
  have hR2a : w3.cell? ⟨w2.heap.size, 4, none⟩ = some (.string ⟨#[99, 111, 110, 116, 101, 110, 116]⟩) := by rw [hw3]; exact World.cell?_alloc_mark w2 _ _ _ 4
  have hR2b : w3.cell? ⟨w2.heap.size, 5, none⟩ = some (.func (.func 177) #[] #[]) := by rw [hw3]; exact World.cell?_alloc_mark w2 _ _ _ 5
  have HR2a := Lib.hid hR2a; have HR2b := Lib.hid hR2b
  have hR3a : w3.cell? ⟨w2.heap.size, 6, none⟩ = some (.string ⟨#[109, 97, 120, 45, 97, 103, 101]⟩) := by rw [hw3]; exact World.cell?_alloc_mark w2 _ _ _ 6
  have hR3b : w3.cell? ⟨w2.heap.size, 7, none⟩ = some (.func (.func 179) #[] #[]) := by rw [hw3]; exact World.cell?_alloc_mark w2 _ _ _ 7
  have HR3a := Lib.hid hR3a; have HR3b := Lib.hid hR3b
  have hB3 := bt hB2 hb3
  have HC3 := Lib.hid (HC0.out.below hB3)
  have HRL := Lib.hid (R2.out.below hb3)
  have HM := Lib.hid (HM0.out.below hB3)
  have hs2 := hB2.size
  have hRl : w2.heap.size < w3.heap.size := by omega
  have hRne : w2.heap.size ≠ w.heap.size := by omega
  have hz0 := HC3.out
  clear hR0a hR0b hR1a hR1b hR2a hR2b hR3a hR3b hw3 hb3 R2 HC0 HM0 hb1 hb2 hz0
  obtain ⟨R, hRe⟩ : ∃ R, w2.heap.size = R := ⟨_, rfl⟩
  rw [hRe] at HR0a HR0b HR1a HR1b HR2a HR2b HR3a HR3b hRl hRne ⊢
  clear hRe hz3
  go_wp2_with fail
  go_loopw [15] (fun i wr => ∃ j : Nat, j ≤ 4 ∧ i = .int .i64 j ∧ Hid (CtlAt w.heap.size (ctlTo ls j) wr) ∧ Beside w.heap.size w3 wr) (fun i _ => 4 - (intOf i).toNat)
  case atStart => exact ⟨0, by omega, rfl, HC3, Beside.of (Below.refl _ _) (by have := hB3.size; omega)⟩
  case round =>
    clear HC3
    obtain ⟨j, hj, rfl, HC, hbw⟩ := hrel
    rcases (by omega : j = 0 ∨ j = 1 ∨ j = 2 ∨ j = 3 ∨ j = 4) with rfl | rfl | rfl | rfl | rfl
    · -- rule 1
      have r0 := (hbw.cell 0 hRl hRne).trans HR0a.out
      have r1 := (hbw.cell 1 hRl hRne).trans HR0b.out
      obtain ⟨W4, hW4⟩ : ∃ W4, wr.alloc (.cells #[.string ⟨#[110, 111, 45, 115, 116, 111, 114, 101]⟩, .func (.func 175) #[] #[]] 151) = W4 := ⟨_, rfl⟩
      have ha4 : Below wr.heap.size wr W4 := by rw [← hW4]; exact (Below.refl _ wr).alloc (Nat.le_refl _) _
      have v0 : W4.cell? ⟨wr.heap.size, 0, none⟩ = some (.string ⟨#[110, 111, 45, 115, 116, 111, 114, 101]⟩) := by rw [← hW4]; exact World.cell?_alloc_mark wr _ _ _ 0
      have v1 : W4.cell? ⟨wr.heap.size, 1, none⟩ = some (.func (.func 175) #[] #[]) := by rw [← hW4]; exact World.cell?_alloc_mark wr _ _ _ 1
      have hVl : wr.heap.size < W4.heap.size := by rw [← hW4]; simp
      have hrl := (HRL.out.below2 hbw HNC.out).below ha4
      have k5 := indexOf_any (.pointer (some ⟨wr.heap.size, 0, none⟩)) (fun d => d.name == noStore) la ls.length lc ls W4 hrl hls (fun d _ W' hb' => of1_any wr.heap.size noStore d W' ((hb'.cell (p := ⟨wr.heap.size, 0, none⟩) hVl).trans v0) (Nat.lt_of_lt_of_le hVl hb'.size))
      have hcase := firstI_find (fun d => d.name == noStore) ls
      have hcw := HC.out.lt
      have HC4 := Lib.hid (HC.out.below ha4)
      have hB4 := hbw.trans (Beside.of ha4 (Nat.le_of_lt HC.out.lt))
      have HRL4 := Lib.hid hrl
      generalize firstI (fun d => d.name == noStore) ls = ix at *
      have K5 := Lib.hid k5; have HW4 := Lib.hid hW4; have HV1 := Lib.hid v1
      clear k5 hW4 ha4 v0 v1 hrl HC hbw
      rcases hcase with ⟨hf, rfl⟩ | ⟨k, hk, hf, rfl⟩
      · have hnx : ctlTo ls 1 = ctlTo ls 0 := by unfold ctlTo; rw [first_none hf]; rfl
        have HNX := Lib.hid hnx
        clear hnx hf
        go_wp2_with fail
        rw [HW4.out]
        (with_reducible refine K5.out.mono ?_)
        rintro e w5 ⟨rfl, h5⟩
        have HC5 : Hid (CtlAt w.heap.size (ctlTo ls 1) w5) := by rw [HNX.out]; exact Lib.hid (HC4.out.below h5)
        have hB5 := hB4.trans (Beside.of h5 (Nat.le_of_lt HC4.out.lt))
        clear h5 r0 r1
        go_wp2
        go_roundw
        case rel => exact ⟨1, by omega, by rfl, HC5, hB5⟩
        case measure => simp [intOf]
      · have hdl := HDL.out ls[k] (List.getElem_mem _)
        obtain ⟨d, hd⟩ : ∃ d, ls[k] = d := ⟨_, rfl⟩
        rw [hd] at hf hdl
        have hfv := first_some hf
        obtain ⟨dn, dv, dh, df⟩ := d
        have hnx : ctlTo ls 1 = { ctlTo ls 0 with noStore := true } := by unfold ctlTo; rw [hfv]; rfl
        have HNX := Lib.hid hnx; have HD := Lib.hid hd
        have hvs : (⟨dv.toArray⟩ : ByteArray).size ≤ 1000000 := by rw [Lib.size_eq]; exact hdl
        clear hnx hf hd hdl hfv
        go_wp2_with fail
        rw [HW4.out]
        (with_reducible refine K5.out.mono ?_)
        rintro e w5 ⟨rfl, h5⟩
        obtain ⟨b, o, rfl, hbl, _, x1, _, _⟩ := (HRL4.out.below h5).dir_at (k := k) hk
        rw [HD.out] at x1
        simp only at x1
        have hbne : b ≠ w.heap.size := HNC.out b o rfl
        have hVl5 : wr.heap.size < w5.heap.size := Nat.lt_of_lt_of_le hVl h5.size
        have s0 := (h5.cell (p := ⟨wr.heap.size, 1, none⟩) hVl).trans HV1.out
        have s1 := x1
        have HC5 := Lib.hid (HC4.out.below h5)
        have hB5 := hB4.trans (Beside.of h5 (Nat.le_of_lt HC4.out.lt))
        have hM5 := HM.out.beside hB5 hCg
        have hbl5 := hbl
        have hVne : wr.heap.size ≠ w.heap.size := by omega
        have hBd : Beside w.heap.size w5 w5.drew := ⟨(Below.refl _ _).drew, fun _ _ _ => rfl⟩
        have s0d : w5.drew.cell? ⟨wr.heap.size, 1, none⟩ = some (.func (.func 175) #[] #[]) := s0
        have s1d : w5.drew.cell? ⟨b, o + k * 4 + 1, none⟩ = some (.string ⟨dv.toArray⟩) := s1
        have hM5d := hM5.beside hBd hCg
        have hC5d : CtlAt w.heap.size (ctlTo ls 0) w5.drew := HC5.out
        have k6 := do1_any w.heap.size _ ⟨dv.toArray⟩ _ hC5d
        have K6 := Lib.hid k6; have HBD := Lib.hid (hB5.trans hBd)
        clear h5 r0 r1 k6 hC5d hM5d hM5 hBd x1
        go_wp2_with fail
        refine wp_region_held_drew (S := (fun w' => w'.cell? ⟨wr.heap.size, 1, none⟩ = some (.func (.func 175) #[] #[]) ∧ w'.cell? ⟨b, o + k * 4 + 1, none⟩ = some (.string ⟨dv.toArray⟩))) (by kernel_rfl) (And.intro s0d s1d) (fun hHeld => ?_)
        refine wpAnyH_take (i := 0) (v := ?_) (by simp only [List.getElem?_toArray, List.getElem?_cons_zero]; exact rfl) (by kernel_rfl) (by kernel_rfl) (by kernel_rfl) (by intro _ _ _ h; exact h) (Or.inl ⟨by rfl, fun W hSw => ?_⟩) hHeld ?_
        rotate_left
        focus ((try dsimp only at hSw); first | (go_simp; done) | (go_simp; with_reducible rfl))
        try simp only [Act.put, List.setIfInBounds_toArray, List.set_cons_zero, List.set_cons_succ]
        refine wpAnyH_take (i := 1) (v := ?_) (by simp only [List.getElem?_toArray, List.getElem?_cons_succ, List.getElem?_cons_zero]; exact rfl) (by kernel_rfl) (by kernel_rfl) (by kernel_rfl) (by intro _ _ _ h; exact h) (Or.inl ⟨by rfl, fun W hSw => ?_⟩) hHeld ?_
        rotate_left
        focus ((try dsimp only at hSw); first | (go_simp; done) | (go_simp; with_reducible rfl))
        try simp only [Act.put, List.setIfInBounds_toArray, List.set_cons_zero, List.set_cons_succ]
        refine wpAnyH_take (i := 2) (v := ?_) (by simp only [List.getElem?_toArray, List.getElem?_cons_succ, List.getElem?_cons_zero]; exact rfl) (by kernel_rfl) (by kernel_rfl) (by kernel_rfl) (by intro _ _ _ h; exact h) (Or.inl ⟨by rfl, fun W hSw => ?_⟩) hHeld ?_
        rotate_left
        focus ((try dsimp only at hSw); first | (go_simp; done) | (go_simp; with_reducible rfl))
        try simp only [Act.put, List.setIfInBounds_toArray, List.set_cons_zero, List.set_cons_succ]
        refine wpAnyH_take (i := 3) (v := ?_) (by simp only [List.getElem?_toArray, List.getElem?_cons_succ, List.getElem?_cons_zero]; exact rfl) (by kernel_rfl) (by kernel_rfl) (by kernel_rfl) (by intro _ _ _ h; exact h) (Or.inl ⟨by rfl, fun W hSw => ?_⟩) hHeld ?_
        rotate_left
        focus ((try dsimp only at hSw); first | (go_simp; done) | (go_simp; with_reducible rfl))
        try simp only [Act.put, List.setIfInBounds_toArray, List.set_cons_zero, List.set_cons_succ]
        refine wpAnyH_take (i := 4) (v := ?_) (by simp only [List.getElem?_toArray, List.getElem?_cons_succ, List.getElem?_cons_zero]; exact rfl) (by kernel_rfl) (by kernel_rfl) (by kernel_rfl) (by intro _ _ _ h; exact h) (Or.inl ⟨by rfl, fun W hSw => ?_⟩) hHeld ?_
        rotate_left
        focus ((try dsimp only at hSw); first | (go_simp; done) | (go_simp; with_reducible rfl))
        try simp only [Act.put, List.setIfInBounds_toArray, List.set_cons_zero, List.set_cons_succ]
        refine wpAnyH_take (i := 5) (v := ?_) (by simp only [List.getElem?_toArray, List.getElem?_cons_succ, List.getElem?_cons_zero]; exact rfl) (by kernel_rfl) (by kernel_rfl) (by kernel_rfl) (by intro _ _ _ h; exact h) (Or.inl ⟨by rfl, fun W hSw => ?_⟩) hHeld ?_
        rotate_left
        focus ((try dsimp only at hSw); first | (go_simp; done) | (go_simp; with_reducible rfl))
        try simp only [Act.put, List.setIfInBounds_toArray, List.set_cons_zero, List.set_cons_succ]
        refine wpAnyH_take (i := 6) (v := ?_) (by simp only [List.getElem?_toArray, List.getElem?_cons_succ, List.getElem?_cons_zero]; exact rfl) (by kernel_rfl) (by kernel_rfl) (by kernel_rfl) (by intro _ _ _ h; exact h) (Or.inl ⟨by rfl, fun W hSw => ?_⟩) hHeld ?_
        rotate_left
        focus ((try dsimp only at hSw); first | (go_simp; done) | (go_simp; with_reducible rfl))
        try simp only [Act.put, List.setIfInBounds_toArray, List.set_cons_zero, List.set_cons_succ]
        refine wpAnyH_ready (rs := [7]) (by kernel_rfl) (by simp) (AllReadyH.cons (by simp only [List.getElem?_toArray, List.getElem?_cons_succ, List.getElem?_cons_zero]; exact rfl) (fun K hK => ?_) AllReadyH.nil)
        rw [if_pos (by rfl)]
        go_simp
        refine (K6.out).mono ?_; rintro e w6 ⟨⟨_, rfl⟩, hc6, hb6⟩; have hS6 := And.intro ((hb6.cell 1 hVl5 hVne).trans s0d) ((hb6.cell (o + k * 4 + 1) hbl5 hbne).trans s1d); go_wp2_with fail
        refine hK.out _ _ (hS6) (fun hHeld => ?_)
        clear hK K
        try simp only [Act.put, List.setIfInBounds_toArray, List.set_cons_zero, List.set_cons_succ]
        refine wpAnyH_done (by kernel_rfl) ?_ _
        have HC6 : Hid (CtlAt w.heap.size (ctlTo ls 1) w6) := by rw [HNX.out]; exact Lib.hid hc6
        have hB6 := HBD.out.trans hb6
        clear hc6 hb6 hHeld hS6
        go_wp2
        go_roundw
        case rel => exact ⟨1, by omega, by rfl, HC6, hB6⟩
        case measure => simp [intOf]
    · -- rule 2
      have r0 := (hbw.cell 2 hRl hRne).trans HR1a.out
      have r1 := (hbw.cell 3 hRl hRne).trans HR1b.out
      obtain ⟨W4, hW4⟩ : ∃ W4, wr.alloc (.cells #[.string ⟨#[110, 111, 45, 115, 116, 111, 114, 101, 45, 114, 101, 109, 111, 116, 101]⟩, .func (.func 176) #[] #[]] 151) = W4 := ⟨_, rfl⟩
      have ha4 : Below wr.heap.size wr W4 := by rw [← hW4]; exact (Below.refl _ wr).alloc (Nat.le_refl _) _
      have v0 : W4.cell? ⟨wr.heap.size, 0, none⟩ = some (.string ⟨#[110, 111, 45, 115, 116, 111, 114, 101, 45, 114, 101, 109, 111, 116, 101]⟩) := by rw [← hW4]; exact World.cell?_alloc_mark wr _ _ _ 0
      have v1 : W4.cell? ⟨wr.heap.size, 1, none⟩ = some (.func (.func 176) #[] #[]) := by rw [← hW4]; exact World.cell?_alloc_mark wr _ _ _ 1
      have hVl : wr.heap.size < W4.heap.size := by rw [← hW4]; simp
      have hrl := (HRL.out.below2 hbw HNC.out).below ha4
      have k5 := indexOf_any (.pointer (some ⟨wr.heap.size, 0, none⟩)) (fun d => d.name == sRemote) la ls.length lc ls W4 hrl hls (fun d _ W' hb' => of1_any wr.heap.size sRemote d W' ((hb'.cell (p := ⟨wr.heap.size, 0, none⟩) hVl).trans v0) (Nat.lt_of_lt_of_le hVl hb'.size))
      have hcase := firstI_find (fun d => d.name == sRemote) ls
      have hcw := HC.out.lt
      have HC4 := Lib.hid (HC.out.below ha4)
      have hB4 := hbw.trans (Beside.of ha4 (Nat.le_of_lt HC.out.lt))
      have HRL4 := Lib.hid hrl
      generalize firstI (fun d => d.name == sRemote) ls = ix at *
      have K5 := Lib.hid k5; have HW4 := Lib.hid hW4; have HV1 := Lib.hid v1
      clear k5 hW4 ha4 v0 v1 hrl HC hbw
      rcases hcase with ⟨hf, rfl⟩ | ⟨k, hk, hf, rfl⟩
      · have hnx : ctlTo ls 2 = ctlTo ls 1 := by unfold ctlTo; rw [first_none hf]; rfl
        have HNX := Lib.hid hnx
        clear hnx hf
        go_wp2_with fail
        rw [HW4.out]
        (with_reducible refine K5.out.mono ?_)
        rintro e w5 ⟨rfl, h5⟩
        have HC5 : Hid (CtlAt w.heap.size (ctlTo ls 2) w5) := by rw [HNX.out]; exact Lib.hid (HC4.out.below h5)
        have hB5 := hB4.trans (Beside.of h5 (Nat.le_of_lt HC4.out.lt))
        clear h5 r0 r1
        go_wp2
        go_roundw
        case rel => exact ⟨2, by omega, by rfl, HC5, hB5⟩
        case measure => simp [intOf]
      · have hdl := HDL.out ls[k] (List.getElem_mem _)
        obtain ⟨d, hd⟩ : ∃ d, ls[k] = d := ⟨_, rfl⟩
        rw [hd] at hf hdl
        have hfv := first_some hf
        obtain ⟨dn, dv, dh, df⟩ := d
        have hnx : ctlTo ls 2 = { ctlTo ls 1 with noRemote := true } := by unfold ctlTo; rw [hfv]; rfl
        have HNX := Lib.hid hnx; have HD := Lib.hid hd
        have hvs : (⟨dv.toArray⟩ : ByteArray).size ≤ 1000000 := by rw [Lib.size_eq]; exact hdl
        clear hnx hf hd hdl hfv
        go_wp2_with fail
        rw [HW4.out]
        (with_reducible refine K5.out.mono ?_)
        rintro e w5 ⟨rfl, h5⟩
        obtain ⟨b, o, rfl, hbl, _, x1, _, _⟩ := (HRL4.out.below h5).dir_at (k := k) hk
        rw [HD.out] at x1
        simp only at x1
        have hbne : b ≠ w.heap.size := HNC.out b o rfl
        have hVl5 : wr.heap.size < w5.heap.size := Nat.lt_of_lt_of_le hVl h5.size
        have s0 := (h5.cell (p := ⟨wr.heap.size, 1, none⟩) hVl).trans HV1.out
        have s1 := x1
        have HC5 := Lib.hid (HC4.out.below h5)
        have hB5 := hB4.trans (Beside.of h5 (Nat.le_of_lt HC4.out.lt))
        have hM5 := HM.out.beside hB5 hCg
        have hbl5 := hbl
        have hVne : wr.heap.size ≠ w.heap.size := by omega
        have hBd : Beside w.heap.size w5 w5.drew := ⟨(Below.refl _ _).drew, fun _ _ _ => rfl⟩
        have s0d : w5.drew.cell? ⟨wr.heap.size, 1, none⟩ = some (.func (.func 176) #[] #[]) := s0
        have s1d : w5.drew.cell? ⟨b, o + k * 4 + 1, none⟩ = some (.string ⟨dv.toArray⟩) := s1
        have hM5d := hM5.beside hBd hCg
        have hC5d : CtlAt w.heap.size (ctlTo ls 1) w5.drew := HC5.out
        have k6 := do2_any w.heap.size _ ⟨dv.toArray⟩ _ hC5d
        have K6 := Lib.hid k6; have HBD := Lib.hid (hB5.trans hBd)
        clear h5 r0 r1 k6 hC5d hM5d hM5 hBd x1
        go_wp2_with fail
        refine wp_region_held_drew (S := (fun w' => w'.cell? ⟨wr.heap.size, 1, none⟩ = some (.func (.func 176) #[] #[]) ∧ w'.cell? ⟨b, o + k * 4 + 1, none⟩ = some (.string ⟨dv.toArray⟩))) (by kernel_rfl) (And.intro s0d s1d) (fun hHeld => ?_)
        refine wpAnyH_take (i := 0) (v := ?_) (by simp only [List.getElem?_toArray, List.getElem?_cons_zero]; exact rfl) (by kernel_rfl) (by kernel_rfl) (by kernel_rfl) (by intro _ _ _ h; exact h) (Or.inl ⟨by rfl, fun W hSw => ?_⟩) hHeld ?_
        rotate_left
        focus ((try dsimp only at hSw); first | (go_simp; done) | (go_simp; with_reducible rfl))
        try simp only [Act.put, List.setIfInBounds_toArray, List.set_cons_zero, List.set_cons_succ]
        refine wpAnyH_take (i := 1) (v := ?_) (by simp only [List.getElem?_toArray, List.getElem?_cons_succ, List.getElem?_cons_zero]; exact rfl) (by kernel_rfl) (by kernel_rfl) (by kernel_rfl) (by intro _ _ _ h; exact h) (Or.inl ⟨by rfl, fun W hSw => ?_⟩) hHeld ?_
        rotate_left
        focus ((try dsimp only at hSw); first | (go_simp; done) | (go_simp; with_reducible rfl))
        try simp only [Act.put, List.setIfInBounds_toArray, List.set_cons_zero, List.set_cons_succ]
        refine wpAnyH_take (i := 2) (v := ?_) (by simp only [List.getElem?_toArray, List.getElem?_cons_succ, List.getElem?_cons_zero]; exact rfl) (by kernel_rfl) (by kernel_rfl) (by kernel_rfl) (by intro _ _ _ h; exact h) (Or.inl ⟨by rfl, fun W hSw => ?_⟩) hHeld ?_
        rotate_left
        focus ((try dsimp only at hSw); first | (go_simp; done) | (go_simp; with_reducible rfl))
        try simp only [Act.put, List.setIfInBounds_toArray, List.set_cons_zero, List.set_cons_succ]
        refine wpAnyH_take (i := 3) (v := ?_) (by simp only [List.getElem?_toArray, List.getElem?_cons_succ, List.getElem?_cons_zero]; exact rfl) (by kernel_rfl) (by kernel_rfl) (by kernel_rfl) (by intro _ _ _ h; exact h) (Or.inl ⟨by rfl, fun W hSw => ?_⟩) hHeld ?_
        rotate_left
        focus ((try dsimp only at hSw); first | (go_simp; done) | (go_simp; with_reducible rfl))
        try simp only [Act.put, List.setIfInBounds_toArray, List.set_cons_zero, List.set_cons_succ]
        refine wpAnyH_take (i := 4) (v := ?_) (by simp only [List.getElem?_toArray, List.getElem?_cons_succ, List.getElem?_cons_zero]; exact rfl) (by kernel_rfl) (by kernel_rfl) (by kernel_rfl) (by intro _ _ _ h; exact h) (Or.inl ⟨by rfl, fun W hSw => ?_⟩) hHeld ?_
        rotate_left
        focus ((try dsimp only at hSw); first | (go_simp; done) | (go_simp; with_reducible rfl))
        try simp only [Act.put, List.setIfInBounds_toArray, List.set_cons_zero, List.set_cons_succ]
        refine wpAnyH_take (i := 5) (v := ?_) (by simp only [List.getElem?_toArray, List.getElem?_cons_succ, List.getElem?_cons_zero]; exact rfl) (by kernel_rfl) (by kernel_rfl) (by kernel_rfl) (by intro _ _ _ h; exact h) (Or.inl ⟨by rfl, fun W hSw => ?_⟩) hHeld ?_
        rotate_left
        focus ((try dsimp only at hSw); first | (go_simp; done) | (go_simp; with_reducible rfl))
        try simp only [Act.put, List.setIfInBounds_toArray, List.set_cons_zero, List.set_cons_succ]
        refine wpAnyH_take (i := 6) (v := ?_) (by simp only [List.getElem?_toArray, List.getElem?_cons_succ, List.getElem?_cons_zero]; exact rfl) (by kernel_rfl) (by kernel_rfl) (by kernel_rfl) (by intro _ _ _ h; exact h) (Or.inl ⟨by rfl, fun W hSw => ?_⟩) hHeld ?_
        rotate_left
        focus ((try dsimp only at hSw); first | (go_simp; done) | (go_simp; with_reducible rfl))
        try simp only [Act.put, List.setIfInBounds_toArray, List.set_cons_zero, List.set_cons_succ]
        refine wpAnyH_ready (rs := [7]) (by kernel_rfl) (by simp) (AllReadyH.cons (by simp only [List.getElem?_toArray, List.getElem?_cons_succ, List.getElem?_cons_zero]; exact rfl) (fun K hK => ?_) AllReadyH.nil)
        rw [if_pos (by rfl)]
        go_simp
        refine (K6.out).mono ?_; rintro e w6 ⟨⟨_, rfl⟩, hc6, hb6⟩; have hS6 := And.intro ((hb6.cell 1 hVl5 hVne).trans s0d) ((hb6.cell (o + k * 4 + 1) hbl5 hbne).trans s1d); go_wp2_with fail
        refine hK.out _ _ (hS6) (fun hHeld => ?_)
        clear hK K
        try simp only [Act.put, List.setIfInBounds_toArray, List.set_cons_zero, List.set_cons_succ]
        refine wpAnyH_done (by kernel_rfl) ?_ _
        have HC6 : Hid (CtlAt w.heap.size (ctlTo ls 2) w6) := by rw [HNX.out]; exact Lib.hid hc6
        have hB6 := HBD.out.trans hb6
        clear hc6 hb6 hHeld hS6
        go_wp2
        go_roundw
        case rel => exact ⟨2, by omega, by rfl, HC6, hB6⟩
        case measure => simp [intOf]
    · -- rule 3
      have r0 := (hbw.cell 4 hRl hRne).trans HR2a.out
      have r1 := (hbw.cell 5 hRl hRne).trans HR2b.out
      obtain ⟨W4, hW4⟩ : ∃ W4, wr.alloc (.cells #[.string ⟨#[99, 111, 110, 116, 101, 110, 116]⟩, .func (.func 177) #[] #[]] 151) = W4 := ⟨_, rfl⟩
      have ha4 : Below wr.heap.size wr W4 := by rw [← hW4]; exact (Below.refl _ wr).alloc (Nat.le_refl _) _
      have v0 : W4.cell? ⟨wr.heap.size, 0, none⟩ = some (.string ⟨#[99, 111, 110, 116, 101, 110, 116]⟩) := by rw [← hW4]; exact World.cell?_alloc_mark wr _ _ _ 0
      have v1 : W4.cell? ⟨wr.heap.size, 1, none⟩ = some (.func (.func 177) #[] #[]) := by rw [← hW4]; exact World.cell?_alloc_mark wr _ _ _ 1
      have hVl : wr.heap.size < W4.heap.size := by rw [← hW4]; simp
      have hrl := (HRL.out.below2 hbw HNC.out).below ha4
      have k5 := indexOf_any (.pointer (some ⟨wr.heap.size, 0, none⟩)) (fun d => d.name == sContent) la ls.length lc ls W4 hrl hls (fun d _ W' hb' => of1_any wr.heap.size sContent d W' ((hb'.cell (p := ⟨wr.heap.size, 0, none⟩) hVl).trans v0) (Nat.lt_of_lt_of_le hVl hb'.size))
      have hcase := firstI_find (fun d => d.name == sContent) ls
      have hcw := HC.out.lt
      have HC4 := Lib.hid (HC.out.below ha4)
      have hB4 := hbw.trans (Beside.of ha4 (Nat.le_of_lt HC.out.lt))
      have HRL4 := Lib.hid hrl
      generalize firstI (fun d => d.name == sContent) ls = ix at *
      have K5 := Lib.hid k5; have HW4 := Lib.hid hW4; have HV1 := Lib.hid v1
      clear k5 hW4 ha4 v0 v1 hrl HC hbw
      rcases hcase with ⟨hf, rfl⟩ | ⟨k, hk, hf, rfl⟩
      · have hnx : ctlTo ls 3 = ctlTo ls 2 := by unfold ctlTo; rw [first_none hf]; rfl
        have HNX := Lib.hid hnx
        clear hnx hf
        go_wp2_with fail
        rw [HW4.out]
        (with_reducible refine K5.out.mono ?_)
        rintro e w5 ⟨rfl, h5⟩
        have HC5 : Hid (CtlAt w.heap.size (ctlTo ls 3) w5) := by rw [HNX.out]; exact Lib.hid (HC4.out.below h5)
        have hB5 := hB4.trans (Beside.of h5 (Nat.le_of_lt HC4.out.lt))
        clear h5 r0 r1
        go_wp2
        go_roundw
        case rel => exact ⟨3, by omega, by rfl, HC5, hB5⟩
        case measure => simp [intOf]
      · have hdl := HDL.out ls[k] (List.getElem_mem _)
        obtain ⟨d, hd⟩ : ∃ d, ls[k] = d := ⟨_, rfl⟩
        rw [hd] at hf hdl
        have hfv := first_some hf
        obtain ⟨dn, dv, dh, df⟩ := d
        have hnx : ctlTo ls 3 = { ctlTo ls 2 with esi := wordP sESI [] dv } := by unfold ctlTo; rw [hfv]; rfl
        have HNX := Lib.hid hnx; have HD := Lib.hid hd
        have hvs : (⟨dv.toArray⟩ : ByteArray).size ≤ 1000000 := by rw [Lib.size_eq]; exact hdl
        clear hnx hf hd hdl hfv
        go_wp2_with fail
        rw [HW4.out]
        (with_reducible refine K5.out.mono ?_)
        rintro e w5 ⟨rfl, h5⟩
        obtain ⟨b, o, rfl, hbl, _, x1, _, _⟩ := (HRL4.out.below h5).dir_at (k := k) hk
        rw [HD.out] at x1
        simp only at x1
        have hbne : b ≠ w.heap.size := HNC.out b o rfl
        have hVl5 : wr.heap.size < w5.heap.size := Nat.lt_of_lt_of_le hVl h5.size
        have s0 := (h5.cell (p := ⟨wr.heap.size, 1, none⟩) hVl).trans HV1.out
        have s1 := x1
        have HC5 := Lib.hid (HC4.out.below h5)
        have hB5 := hB4.trans (Beside.of h5 (Nat.le_of_lt HC4.out.lt))
        have hM5 := HM.out.beside hB5 hCg
        have hbl5 := hbl
        have hVne : wr.heap.size ≠ w.heap.size := by omega
        have hBd : Beside w.heap.size w5 w5.drew := ⟨(Below.refl _ _).drew, fun _ _ _ => rfl⟩
        have s0d : w5.drew.cell? ⟨wr.heap.size, 1, none⟩ = some (.func (.func 177) #[] #[]) := s0
        have s1d : w5.drew.cell? ⟨b, o + k * 4 + 1, none⟩ = some (.string ⟨dv.toArray⟩) := s1
        have hM5d := hM5.beside hBd hCg
        have hC5d : CtlAt w.heap.size (ctlTo ls 2) w5.drew := HC5.out
        have k6 := do3_any w.heap.size _ ⟨dv.toArray⟩ _ hC5d hvs
        have K6 := Lib.hid k6; have HBD := Lib.hid (hB5.trans hBd)
        clear h5 r0 r1 k6 hC5d hM5d hM5 hBd x1
        go_wp2_with fail
        refine wp_region_held_drew (S := (fun w' => w'.cell? ⟨wr.heap.size, 1, none⟩ = some (.func (.func 177) #[] #[]) ∧ w'.cell? ⟨b, o + k * 4 + 1, none⟩ = some (.string ⟨dv.toArray⟩))) (by kernel_rfl) (And.intro s0d s1d) (fun hHeld => ?_)
        refine wpAnyH_take (i := 0) (v := ?_) (by simp only [List.getElem?_toArray, List.getElem?_cons_zero]; exact rfl) (by kernel_rfl) (by kernel_rfl) (by kernel_rfl) (by intro _ _ _ h; exact h) (Or.inl ⟨by rfl, fun W hSw => ?_⟩) hHeld ?_
        rotate_left
        focus ((try dsimp only at hSw); first | (go_simp; done) | (go_simp; with_reducible rfl))
        try simp only [Act.put, List.setIfInBounds_toArray, List.set_cons_zero, List.set_cons_succ]
        refine wpAnyH_take (i := 1) (v := ?_) (by simp only [List.getElem?_toArray, List.getElem?_cons_succ, List.getElem?_cons_zero]; exact rfl) (by kernel_rfl) (by kernel_rfl) (by kernel_rfl) (by intro _ _ _ h; exact h) (Or.inl ⟨by rfl, fun W hSw => ?_⟩) hHeld ?_
        rotate_left
        focus ((try dsimp only at hSw); first | (go_simp; done) | (go_simp; with_reducible rfl))
        try simp only [Act.put, List.setIfInBounds_toArray, List.set_cons_zero, List.set_cons_succ]
        refine wpAnyH_take (i := 2) (v := ?_) (by simp only [List.getElem?_toArray, List.getElem?_cons_succ, List.getElem?_cons_zero]; exact rfl) (by kernel_rfl) (by kernel_rfl) (by kernel_rfl) (by intro _ _ _ h; exact h) (Or.inl ⟨by rfl, fun W hSw => ?_⟩) hHeld ?_
        rotate_left
        focus ((try dsimp only at hSw); first | (go_simp; done) | (go_simp; with_reducible rfl))
        try simp only [Act.put, List.setIfInBounds_toArray, List.set_cons_zero, List.set_cons_succ]
        refine wpAnyH_take (i := 3) (v := ?_) (by simp only [List.getElem?_toArray, List.getElem?_cons_succ, List.getElem?_cons_zero]; exact rfl) (by kernel_rfl) (by kernel_rfl) (by kernel_rfl) (by intro _ _ _ h; exact h) (Or.inl ⟨by rfl, fun W hSw => ?_⟩) hHeld ?_
        rotate_left
        focus ((try dsimp only at hSw); first | (go_simp; done) | (go_simp; with_reducible rfl))
        try simp only [Act.put, List.setIfInBounds_toArray, List.set_cons_zero, List.set_cons_succ]
        refine wpAnyH_take (i := 4) (v := ?_) (by simp only [List.getElem?_toArray, List.getElem?_cons_succ, List.getElem?_cons_zero]; exact rfl) (by kernel_rfl) (by kernel_rfl) (by kernel_rfl) (by intro _ _ _ h; exact h) (Or.inl ⟨by rfl, fun W hSw => ?_⟩) hHeld ?_
        rotate_left
        focus ((try dsimp only at hSw); first | (go_simp; done) | (go_simp; with_reducible rfl))
        try simp only [Act.put, List.setIfInBounds_toArray, List.set_cons_zero, List.set_cons_succ]
        refine wpAnyH_take (i := 5) (v := ?_) (by simp only [List.getElem?_toArray, List.getElem?_cons_succ, List.getElem?_cons_zero]; exact rfl) (by kernel_rfl) (by kernel_rfl) (by kernel_rfl) (by intro _ _ _ h; exact h) (Or.inl ⟨by rfl, fun W hSw => ?_⟩) hHeld ?_
        rotate_left
        focus ((try dsimp only at hSw); first | (go_simp; done) | (go_simp; with_reducible rfl))
        try simp only [Act.put, List.setIfInBounds_toArray, List.set_cons_zero, List.set_cons_succ]
        refine wpAnyH_take (i := 6) (v := ?_) (by simp only [List.getElem?_toArray, List.getElem?_cons_succ, List.getElem?_cons_zero]; exact rfl) (by kernel_rfl) (by kernel_rfl) (by kernel_rfl) (by intro _ _ _ h; exact h) (Or.inl ⟨by rfl, fun W hSw => ?_⟩) hHeld ?_
        rotate_left
        focus ((try dsimp only at hSw); first | (go_simp; done) | (go_simp; with_reducible rfl))
        try simp only [Act.put, List.setIfInBounds_toArray, List.set_cons_zero, List.set_cons_succ]
        refine wpAnyH_ready (rs := [7]) (by kernel_rfl) (by simp) (AllReadyH.cons (by simp only [List.getElem?_toArray, List.getElem?_cons_succ, List.getElem?_cons_zero]; exact rfl) (fun K hK => ?_) AllReadyH.nil)
        rw [if_pos (by rfl)]
        go_simp
        refine (K6.out).mono ?_; rintro e w6 ⟨⟨_, rfl⟩, hc6, hb6⟩; have hS6 := And.intro ((hb6.cell 1 hVl5 hVne).trans s0d) ((hb6.cell (o + k * 4 + 1) hbl5 hbne).trans s1d); go_wp2_with fail
        refine hK.out _ _ (hS6) (fun hHeld => ?_)
        clear hK K
        try simp only [Act.put, List.setIfInBounds_toArray, List.set_cons_zero, List.set_cons_succ]
        refine wpAnyH_done (by kernel_rfl) ?_ _
        have HC6 : Hid (CtlAt w.heap.size (ctlTo ls 3) w6) := by rw [HNX.out]; exact Lib.hid hc6
        have hB6 := HBD.out.trans hb6
        clear hc6 hb6 hHeld hS6
        go_wp2
        go_roundw
        case rel => exact ⟨3, by omega, by rfl, HC6, hB6⟩
        case measure => simp [intOf]
    · -- rule 4
      have r0 := (hbw.cell 6 hRl hRne).trans HR3a.out
      have r1 := (hbw.cell 7 hRl hRne).trans HR3b.out
      obtain ⟨W4, hW4⟩ : ∃ W4, wr.alloc (.cells #[.string ⟨#[109, 97, 120, 45, 97, 103, 101]⟩, .func (.func 179) #[] #[]] 151) = W4 := ⟨_, rfl⟩
      have ha4 : Below wr.heap.size wr W4 := by rw [← hW4]; exact (Below.refl _ wr).alloc (Nat.le_refl _) _
      have v0 : W4.cell? ⟨wr.heap.size, 0, none⟩ = some (.string ⟨#[109, 97, 120, 45, 97, 103, 101]⟩) := by rw [← hW4]; exact World.cell?_alloc_mark wr _ _ _ 0
      have v1 : W4.cell? ⟨wr.heap.size, 1, none⟩ = some (.func (.func 179) #[] #[]) := by rw [← hW4]; exact World.cell?_alloc_mark wr _ _ _ 1
      have hVl : wr.heap.size < W4.heap.size := by rw [← hW4]; simp
      have hrl := (HRL.out.below2 hbw HNC.out).below ha4
      have k5 := indexOf_any (.pointer (some ⟨wr.heap.size, 0, none⟩)) (fun d => d.name == sMaxAge) la ls.length lc ls W4 hrl hls (fun d _ W' hb' => of1_any wr.heap.size sMaxAge d W' ((hb'.cell (p := ⟨wr.heap.size, 0, none⟩) hVl).trans v0) (Nat.lt_of_lt_of_le hVl hb'.size))
      have hcase := firstI_find (fun d => d.name == sMaxAge) ls
      have hcw := HC.out.lt
      have HC4 := Lib.hid (HC.out.below ha4)
      have hB4 := hbw.trans (Beside.of ha4 (Nat.le_of_lt HC.out.lt))
      have HRL4 := Lib.hid hrl
      generalize firstI (fun d => d.name == sMaxAge) ls = ix at *
      have K5 := Lib.hid k5; have HW4 := Lib.hid hW4; have HV1 := Lib.hid v1
      clear k5 hW4 ha4 v0 v1 hrl HC hbw
      rcases hcase with ⟨hf, rfl⟩ | ⟨k, hk, hf, rfl⟩
      · have hnx : ctlTo ls 4 = ctlTo ls 3 := by unfold ctlTo; unfold ctlL; rw [first_none hf]; rfl
        have HNX := Lib.hid hnx
        clear hnx hf
        go_wp2_with fail
        rw [HW4.out]
        (with_reducible refine K5.out.mono ?_)
        rintro e w5 ⟨rfl, h5⟩
        have HC5 : Hid (CtlAt w.heap.size (ctlTo ls 4) w5) := by rw [HNX.out]; exact Lib.hid (HC4.out.below h5)
        have hB5 := hB4.trans (Beside.of h5 (Nat.le_of_lt HC4.out.lt))
        clear h5 r0 r1
        go_wp2
        go_roundw
        case rel => exact ⟨4, by omega, by rfl, HC5, hB5⟩
        case measure => simp [intOf]
      · have hdl := HDL.out ls[k] (List.getElem_mem _)
        obtain ⟨d, hd⟩ : ∃ d, ls[k] = d := ⟨_, rfl⟩
        rw [hd] at hf hdl
        have hfv := first_some hf
        obtain ⟨dn, dv, dh, df⟩ := d
        have hnx : ctlTo ls 4 = ⟨(ctlTo ls 3).noStore, (ctlTo ls 3).noRemote, (ctlTo ls 3).esi, true, (agesL dv).1, (agesL dv).2⟩ := by unfold ctlTo; unfold ctlL; rw [hfv]; rfl
        have HNX := Lib.hid hnx; have HD := Lib.hid hd
        have hvs : (⟨dv.toArray⟩ : ByteArray).size ≤ 1000000 := by rw [Lib.size_eq]; exact hdl
        clear hnx hf hd hdl hfv
        go_wp2_with fail
        rw [HW4.out]
        (with_reducible refine K5.out.mono ?_)
        rintro e w5 ⟨rfl, h5⟩
        obtain ⟨b, o, rfl, hbl, _, x1, _, _⟩ := (HRL4.out.below h5).dir_at (k := k) hk
        rw [HD.out] at x1
        simp only at x1
        have hbne : b ≠ w.heap.size := HNC.out b o rfl
        have hVl5 : wr.heap.size < w5.heap.size := Nat.lt_of_lt_of_le hVl h5.size
        have s0 := (h5.cell (p := ⟨wr.heap.size, 1, none⟩) hVl).trans HV1.out
        have s1 := x1
        have HC5 := Lib.hid (HC4.out.below h5)
        have hB5 := hB4.trans (Beside.of h5 (Nat.le_of_lt HC4.out.lt))
        have hM5 := HM.out.beside hB5 hCg
        have hbl5 := hbl
        have hVne : wr.heap.size ≠ w.heap.size := by omega
        have hBd : Beside w.heap.size w5 w5.drew := ⟨(Below.refl _ _).drew, fun _ _ _ => rfl⟩
        have s0d : w5.drew.cell? ⟨wr.heap.size, 1, none⟩ = some (.func (.func 179) #[] #[]) := s0
        have s1d : w5.drew.cell? ⟨b, o + k * 4 + 1, none⟩ = some (.string ⟨dv.toArray⟩) := s1
        have hM5d := hM5.beside hBd hCg
        have hC5d : CtlAt w.heap.size (ctlTo ls 3) w5.drew := HC5.out
        have k6 := do4_any w.heap.size _ _ _ _ ⟨dv.toArray⟩ _ hM5d hCg hC5d hvs
        have K6 := Lib.hid k6; have HBD := Lib.hid (hB5.trans hBd)
        clear h5 r0 r1 k6 hC5d hM5d hM5 hBd x1
        go_wp2_with fail
        refine wp_region_held_drew (S := (fun w' => w'.cell? ⟨wr.heap.size, 1, none⟩ = some (.func (.func 179) #[] #[]) ∧ w'.cell? ⟨b, o + k * 4 + 1, none⟩ = some (.string ⟨dv.toArray⟩))) (by kernel_rfl) (And.intro s0d s1d) (fun hHeld => ?_)
        refine wpAnyH_take (i := 0) (v := ?_) (by simp only [List.getElem?_toArray, List.getElem?_cons_zero]; exact rfl) (by kernel_rfl) (by kernel_rfl) (by kernel_rfl) (by intro _ _ _ h; exact h) (Or.inl ⟨by rfl, fun W hSw => ?_⟩) hHeld ?_
        rotate_left
        focus ((try dsimp only at hSw); first | (go_simp; done) | (go_simp; with_reducible rfl))
        try simp only [Act.put, List.setIfInBounds_toArray, List.set_cons_zero, List.set_cons_succ]
        refine wpAnyH_take (i := 1) (v := ?_) (by simp only [List.getElem?_toArray, List.getElem?_cons_succ, List.getElem?_cons_zero]; exact rfl) (by kernel_rfl) (by kernel_rfl) (by kernel_rfl) (by intro _ _ _ h; exact h) (Or.inl ⟨by rfl, fun W hSw => ?_⟩) hHeld ?_
        rotate_left
        focus ((try dsimp only at hSw); first | (go_simp; done) | (go_simp; with_reducible rfl))
        try simp only [Act.put, List.setIfInBounds_toArray, List.set_cons_zero, List.set_cons_succ]
        refine wpAnyH_take (i := 2) (v := ?_) (by simp only [List.getElem?_toArray, List.getElem?_cons_succ, List.getElem?_cons_zero]; exact rfl) (by kernel_rfl) (by kernel_rfl) (by kernel_rfl) (by intro _ _ _ h; exact h) (Or.inl ⟨by rfl, fun W hSw => ?_⟩) hHeld ?_
        rotate_left
        focus ((try dsimp only at hSw); first | (go_simp; done) | (go_simp; with_reducible rfl))
        try simp only [Act.put, List.setIfInBounds_toArray, List.set_cons_zero, List.set_cons_succ]
        refine wpAnyH_take (i := 3) (v := ?_) (by simp only [List.getElem?_toArray, List.getElem?_cons_succ, List.getElem?_cons_zero]; exact rfl) (by kernel_rfl) (by kernel_rfl) (by kernel_rfl) (by intro _ _ _ h; exact h) (Or.inl ⟨by rfl, fun W hSw => ?_⟩) hHeld ?_
        rotate_left
        focus ((try dsimp only at hSw); first | (go_simp; done) | (go_simp; with_reducible rfl))
        try simp only [Act.put, List.setIfInBounds_toArray, List.set_cons_zero, List.set_cons_succ]
        refine wpAnyH_take (i := 4) (v := ?_) (by simp only [List.getElem?_toArray, List.getElem?_cons_succ, List.getElem?_cons_zero]; exact rfl) (by kernel_rfl) (by kernel_rfl) (by kernel_rfl) (by intro _ _ _ h; exact h) (Or.inl ⟨by rfl, fun W hSw => ?_⟩) hHeld ?_
        rotate_left
        focus ((try dsimp only at hSw); first | (go_simp; done) | (go_simp; with_reducible rfl))
        try simp only [Act.put, List.setIfInBounds_toArray, List.set_cons_zero, List.set_cons_succ]
        refine wpAnyH_take (i := 5) (v := ?_) (by simp only [List.getElem?_toArray, List.getElem?_cons_succ, List.getElem?_cons_zero]; exact rfl) (by kernel_rfl) (by kernel_rfl) (by kernel_rfl) (by intro _ _ _ h; exact h) (Or.inl ⟨by rfl, fun W hSw => ?_⟩) hHeld ?_
        rotate_left
        focus ((try dsimp only at hSw); first | (go_simp; done) | (go_simp; with_reducible rfl))
        try simp only [Act.put, List.setIfInBounds_toArray, List.set_cons_zero, List.set_cons_succ]
        refine wpAnyH_take (i := 6) (v := ?_) (by simp only [List.getElem?_toArray, List.getElem?_cons_succ, List.getElem?_cons_zero]; exact rfl) (by kernel_rfl) (by kernel_rfl) (by kernel_rfl) (by intro _ _ _ h; exact h) (Or.inl ⟨by rfl, fun W hSw => ?_⟩) hHeld ?_
        rotate_left
        focus ((try dsimp only at hSw); first | (go_simp; done) | (go_simp; with_reducible rfl))
        try simp only [Act.put, List.setIfInBounds_toArray, List.set_cons_zero, List.set_cons_succ]
        refine wpAnyH_ready (rs := [7]) (by kernel_rfl) (by simp) (AllReadyH.cons (by simp only [List.getElem?_toArray, List.getElem?_cons_succ, List.getElem?_cons_zero]; exact rfl) (fun K hK => ?_) AllReadyH.nil)
        rw [if_pos (by rfl)]
        go_simp
        refine (K6.out).mono ?_; rintro e w6 ⟨⟨_, rfl⟩, hc6, hb6⟩; have hS6 := And.intro ((hb6.cell 1 hVl5 hVne).trans s0d) ((hb6.cell (o + k * 4 + 1) hbl5 hbne).trans s1d); go_wp2_with fail
        refine hK.out _ _ (hS6) (fun hHeld => ?_)
        clear hK K
        try simp only [Act.put, List.setIfInBounds_toArray, List.set_cons_zero, List.set_cons_succ]
        refine wpAnyH_done (by kernel_rfl) ?_ _
        have HC6 : Hid (CtlAt w.heap.size (ctlTo ls 4) w6) := by rw [HNX.out]; exact Lib.hid hc6
        have hB6 := HBD.out.trans hb6
        clear hc6 hb6 hHeld hS6
        go_wp2
        go_roundw
        case rel => exact ⟨4, by omega, by rfl, HC6, hB6⟩
        case measure => simp [intOf]
    · obtain ⟨c0, c1, c2, c3, c4, c5, hf⟩ := HC.out.cells
      have hfin := hB0.trans ((hB3.mono hB0.size).trans (hbw.1.mono (Nat.le_refl _)))
      obtain ⟨kk, hkk⟩ : ∃ kk, ctlTo ls 4 = kk := ⟨_, rfl⟩
      rw [hkk] at c0 c1 c2 c3 c4 c5
      have HK := Lib.hid hkk
      clear hkk
      obtain ⟨k0, k1, k2, k3, k4, k5⟩ := kk
      simp only at c0 c1 c2 c3 c4 c5
      have f0 := hf 0; have f1 := hf 1; have f2 := hf 2; have f3 := hf 3; have f4 := hf 4; have f5 := hf 5
      clear hf HC HRL HM HDL HNC HR0a HR0b HR1a HR1b HR2a HR2b HR3a HR3b hbw
      go_wp2_with fail
      refine bodyPost_ret_by (v := ctlV ⟨k0, k1, k2, k3, k4, k5⟩) ?_ rfl ?_
      · rw [results_cell_one rfl]
        go_simp
        rfl
      · exact ⟨by rw [HK.out], (((((hfin.setCell (p := ⟨w.heap.size, 0, none⟩) (Nat.le_refl _) _).setCell (p := ⟨w.heap.size, 1, none⟩) (Nat.le_refl _) _).setCell (p := ⟨w.heap.size, 2, none⟩) (Nat.le_refl _) _).setCell (p := ⟨w.heap.size, 3, none⟩) (Nat.le_refl _) _).setCell (p := ⟨w.heap.size, 4, none⟩) (Nat.le_refl _) _).setCell (p := ⟨w.heap.size, 5, none⟩) (Nat.le_refl _) _⟩
end Go.Proofs.YtgmmjhcklhajiaaGreatDoor
/- Dates: the walks of number, name, leap, long, ahead, year, two. -/
namespace Go.Proofs.YtgmmjhcklhajiaaGreatDoor
open Go.RowKit
set_option maxRecDepth 100000

def intD : Value → Int
  | .int _ n => n
  | _ => 0
theorem dgI (c : UInt8) : dg c = (decide (48 ≤ (c.toNat : Int)) && decide ((c.toNat : Int) ≤ 57)) := by
  unfold dg; rw [Bool.eq_iff_iff]; simp; omega
theorem dnum_snoc : ∀ (l : List UInt8) (c : UInt8) (a : Int), dnum (l ++ [c]) a = 10 * dnum l a + ((c.toNat : Int) - 48)
  | [], c, a => rfl
  | x :: r, c, a => by rw [List.cons_append, dnum, dnum, dnum_snoc r c]
theorem dnum_le : ∀ (l : List UInt8), l.all dg = true → ∀ a : Int, 0 ≤ a → 0 ≤ dnum l a ∧ dnum l a < (a + 1) * 10 ^ l.length
  | [], _, a, ha => by simp [dnum]; omega
  | x :: r, h, a, ha => by
    rw [List.all_cons, Bool.and_eq_true] at h
    have hx := h.1
    unfold dg at hx
    simp at hx
    have ih := dnum_le r h.2 (10 * a + ((x.toNat : Int) - 48)) (by omega)
    rw [dnum, List.length_cons, Int.pow_succ]
    refine ⟨ih.1, Int.lt_of_lt_of_le ih.2 ?_⟩
    have h1 : (10 * a + ((x.toNat : Int) - 48) + 1) ≤ (a + 1) * 10 := by omega
    have h2 := Int.mul_le_mul_of_nonneg_right h1 (show (0 : Int) ≤ 10 ^ r.length from Int.le_of_lt (Int.pow_pos (by decide)))
    rw [Int.mul_comm (10 ^ r.length) 10, ← Int.mul_assoc]
    exact h2
set_option maxHeartbeats 4000000 in
theorem dnumber_any (s : ByteArray) (n : Nat) (hn : n ≤ 4) (w : World) :
    Calls Tryz.prog 194 #[.string s, .int .i64 n] w fun e w' => e = .returned (.tuple #[.int .i64 (dnumL s.data.toList n).1, .string ⟨(dnumL s.data.toList n).2.1.toArray⟩, .bool (dnumL s.data.toList n).2.2]) ∧ ∃ q, w' = w.drewN q := by
  obtain ⟨R, hR⟩ : ∃ R, dnumL s.data.toList n = R := ⟨_, rfl⟩
  rw [hR]
  unfold dnumL at hR
  rw [← Lib.size_eq] at hR
  by_cases hlt : s.size < n
  · have hR2 : R = (0, [], false) := by rw [← hR]; simp [hlt]
    subst hR2
    clear hR
    go_enter Tryz.func194, Tryz.ntmps194
    go_wp2
    go_ret3
    exact ⟨rfl, 0, rfl⟩
  · have hd : decide (s.size < n) = false := by simpa using hlt
    rw [hd] at hR
    simp only [cond_false] at hR
    have HR := Lib.hid hR
    clear hR hd
    go_enter Tryz.func194, Tryz.ntmps194
    go_wp2_with fail
    go_loopw [7, 14] (fun k i wr => ∃ j : Nat, j ≤ n ∧ i = .int .i64 j ∧ (∃ v, k = .int .i64 v ∧ Hid (v = dnum (s.data.toList.take j) 0)) ∧ Hid ((s.data.toList.take j).all dg = true) ∧ wr = w) (fun _ i _ => n - (intD i).toNat)
    case atStart => exact ⟨0, Nat.zero_le _, rfl, ⟨0, rfl, Lib.hid (by simp [dnum])⟩, Lib.hid (by simp), rfl⟩
    case round =>
      obtain ⟨j, hj, rfl, ⟨v, rfl, HV⟩, HALL, rfl⟩ := hrel
      by_cases hjn : j < n
      · have hjs : j < s.size := by omega
        have hu := u8_lt s[j]
        have hts := take_snoc s j hjs
        cases hdg : dg s[j]
        · have hbad : ∃ (b : Bool), (s.data.toList.take n).all dg = false := by
            refine ⟨true, ?_⟩
            rw [List.all_eq_false]
            exact ⟨s[j], by rw [List.mem_take_iff_getElem]; exact ⟨j, by rw [← Lib.size_eq]; omega, rfl⟩, by simp [hdg]⟩
          obtain ⟨_, hbad⟩ := hbad
          have hR2 : R = (0, [], false) := by rw [← HR.out, hbad]; rfl
          have hI := dgI s[j]
          rw [hdg] at hI
          subst hR2
          have hcase : (s[j].toNat : Int) < 48 ∨ (¬ (s[j].toNat : Int) < 48 ∧ 57 < (s[j].toNat : Int)) := by
            have := hI
            simp at this
            omega
          clear hI hdg hbad hts HR
          rcases hcase with hc | ⟨hc1, hc2⟩
          · have t1 : decide ((s[j].toNat : Int) < 48) = true := by simpa using hc
            go_wp2
            go_ret3
            exact ⟨rfl, 0, rfl⟩
          · have t1 : decide ((s[j].toNat : Int) < 48) = false := by simpa using hc1
            have t2 : decide ((s[j].toNat : Int) > 57) = true := by simpa using hc2
            go_wp2
            go_ret3
            exact ⟨rfl, 0, rfl⟩
        · have hI := dgI s[j]
          rw [hdg] at hI
          have hc : 48 ≤ (s[j].toNat : Int) ∧ (s[j].toNat : Int) ≤ 57 := by
            have := hI.symm
            simp at this
            omega
          have t1 : decide ((s[j].toNat : Int) < 48) = false := by simp; omega
          have t2 : decide ((s[j].toNat : Int) > 57) = false := by simp; omega
          have hb := dnum_le (s.data.toList.take j) HALL.out 0 (by omega)
          rw [← HV.out] at hb
          have hl4 : (s.data.toList.take j).length ≤ 3 := by rw [List.length_take]; omega
          have hp : ((10 : Int)) ^ (s.data.toList.take j).length ≤ 1000 := by
            generalize (s.data.toList.take j).length = L at hl4
            have h4 : L = 0 ∨ L = 1 ∨ L = 2 ∨ L = 3 := by omega
            rcases h4 with rfl | rfl | rfl | rfl <;> decide
          have hv : 0 ≤ v ∧ v ≤ 1000 := by omega
          have hw1 : IntKind.i64.wrap (10 * v) = 10 * v := by rw [IntKind.wrap_i64]; omega
          have hw2 : IntKind.u8.wrap ((s[j].toNat : Int) - 48) = (s[j].toNat : Int) - 48 := by rw [IntKind.wrap_u8]; omega
          have hw3 : IntKind.i64.wrap ((s[j].toNat : Int) - 48) = (s[j].toNat : Int) - 48 := by rw [IntKind.wrap_i64]; omega
          have hw4 : IntKind.i64.wrap (10 * v + ((s[j].toNat : Int) - 48)) = 10 * v + ((s[j].toNat : Int) - 48) := by rw [IntKind.wrap_i64]; omega
          have hw5 : IntKind.i64.wrap ((j : Int) + 1) = ((j + 1 : Nat) : Int) := by rw [IntKind.wrap_i64]; omega
          have hnext : 10 * v + ((s[j].toNat : Int) - 48) = dnum (s.data.toList.take (j + 1)) 0 := by rw [hts, dnum_snoc, ← HV.out]
          have hall : (s.data.toList.take (j + 1)).all dg = true := by rw [hts, List.all_append, HALL.out]; simp [hdg]
          have HN := Lib.hid hnext; have HA2 := Lib.hid hall
          clear hI hdg hb hp hl4 hnext hall hts HV HALL
          go_wp2
          go_roundw
          case rel => exact ⟨j + 1, hjn, rfl, ⟨_, rfl, HN⟩, HA2, trivial⟩
          case measure => simp [intD]; omega
      · have hjn2 : j = n := by omega
        subst hjn2
        have hR2 : R = (v, s.data.toList.drop j, true) := by rw [← HR.out, HALL.out, ← HV.out]; rfl
        have hns : j ≤ s.size := by omega
        subst hR2
        have hex : s.extract j s.size = ⟨(s.data.toList.drop j).toArray⟩ := by
          apply str_eq
          rw [Lib.extract_data]
          have : (s.data.toList.drop j).length ≤ s.size - j := by rw [List.length_drop, ← Lib.size_eq]; omega
          rw [List.take_of_length_le this]
        have HEX := Lib.hid hex
        clear HR HV HALL hex
        go_wp2
        go_region
        go_wp2
        go_ret3
        exact ⟨by rw [← HEX.out]; rfl, 1, rfl⟩
end Go.Proofs.YtgmmjhcklhajiaaGreatDoor
/- Dates: the walks of leap, long, ahead, year, two. -/
namespace Go.Proofs.YtgmmjhcklhajiaaGreatDoor
open Go.RowKit
set_option maxRecDepth 100000

set_option maxHeartbeats 2000000 in
theorem dleap_any (y : Int) (hy : 0 ≤ y ∧ y ≤ 100000) (w : World) :
    Calls Tryz.prog 146 #[.int .i64 y] w fun e w' => e = .returned (.bool (dleap y)) ∧ w' = w := by
  have e4 : y.tmod 4 = y % 4 := Int.tmod_eq_emod_of_nonneg hy.1
  have e100 : y.tmod 100 = y % 100 := Int.tmod_eq_emod_of_nonneg hy.1
  have e400 : y.tmod 400 = y % 400 := Int.tmod_eq_emod_of_nonneg hy.1
  obtain ⟨R, hR⟩ : ∃ R, dleap y = R := ⟨_, rfl⟩
  rw [hR]
  unfold dleap at hR
  have HR := Lib.hid hR
  clear hR
  by_cases h4 : y % 4 = 0
  · by_cases h100 : y % 100 = 0
    · by_cases h400 : y % 400 = 0
      · have hx : R = true := by rw [← HR.out]; simp [h4, h100, h400]
        subst hx
        clear HR
        go_enter Tryz.func146, Tryz.ntmps146
        go_wp2
        go_ret
        exact ⟨rfl, rfl⟩
      · have hx : R = false := by rw [← HR.out]; simp [h4, h100, h400]
        subst hx
        clear HR
        go_enter Tryz.func146, Tryz.ntmps146
        go_wp2
        go_ret
        exact ⟨by first | rfl | simp [h400], rfl⟩
    · have hx : R = true := by rw [← HR.out]; simp [h4, h100]
      subst hx
      clear HR
      go_enter Tryz.func146, Tryz.ntmps146
      go_wp2
      go_ret
      exact ⟨by first | rfl | simp [h100], rfl⟩
  · have h400 : ¬ y % 400 = 0 := by omega
    have hx : R = false := by rw [← HR.out]; simp [h4, h400]
    subst hx
    clear HR
    go_enter Tryz.func146, Tryz.ntmps146
    go_wp2
    go_ret
    exact ⟨by first | rfl | simp [h400], rfl⟩
set_option maxHeartbeats 2000000 in
theorem dlong_any (y m : Int) (hy : 0 ≤ y ∧ y ≤ 100000) (w : World) :
    Calls Tryz.prog 93 #[.int .i64 y, .int .i64 m] w fun e w' => e = .returned (.int .i64 (dlong y m)) ∧ w' = w := by
  by_cases h2 : m = 2
  · subst h2
    have hx : dlong y 2 = if dleap y = true then 29 else 28 := by unfold dlong; rw [if_pos rfl]
    have k := dleap_any y hy w
    rw [hx]
    generalize dleap y = b at *
    have K := Lib.hid k
    clear k hx
    cases b
    · go_enter Tryz.func93, Tryz.ntmps93
      go_wp2_with fail
      (with_reducible refine K.out.mono ?_)
      rintro e w1 ⟨rfl, rfl⟩
      go_wp2
      go_ret
      exact ⟨rfl, rfl⟩
    · go_enter Tryz.func93, Tryz.ntmps93
      go_wp2_with fail
      (with_reducible refine K.out.mono ?_)
      rintro e w1 ⟨rfl, rfl⟩
      go_wp2
      go_ret
      exact ⟨rfl, rfl⟩
  · by_cases h4 : m = 4 ∨ m = 6 ∨ m = 9 ∨ m = 11
    · have hx : dlong y m = 30 := by unfold dlong; rw [if_neg h2, if_pos h4]
      rw [hx]
      clear hx h2
      rcases h4 with rfl | rfl | rfl | rfl
      all_goals
        go_enter Tryz.func93, Tryz.ntmps93
        go_wp2
        go_ret
        exact ⟨rfl, rfl⟩
    · have hx : dlong y m = 31 := by unfold dlong; rw [if_neg h2, if_neg h4]
      rw [hx]
      have n4 : ¬ m = 4 := fun h => h4 (by simp [h])
      have n6 : ¬ m = 6 := fun h => h4 (by simp [h])
      have n9 : ¬ m = 9 := fun h => h4 (by simp [h])
      have n11 : ¬ m = 11 := fun h => h4 (by simp [h])
      clear hx h4
      go_enter Tryz.func93, Tryz.ntmps93
      go_wp2
      go_ret
      exact ⟨rfl, rfl⟩
set_option maxHeartbeats 2000000 in
theorem dahead_any (y : Int) (hy : 1970 ≤ y ∧ y ≤ 100000) (w : World) :
    Calls Tryz.prog 145 #[.int .i64 y] w fun e w' => e = .returned (.int .i64 (dahead y)) ∧ w' = w := by
  obtain ⟨R, hR⟩ : ∃ R, dahead y = R := ⟨_, rfl⟩
  rw [hR]
  unfold dahead at hR
  have e1 : (y - 1).tdiv 4 = (y - 1) / 4 := Int.tdiv_eq_ediv_of_nonneg (by omega)
  have e2 : (y - 1).tdiv 100 = (y - 1) / 100 := Int.tdiv_eq_ediv_of_nonneg (by omega)
  have e3 : (y - 1).tdiv 400 = (y - 1) / 400 := Int.tdiv_eq_ediv_of_nonneg (by omega)
  have w0 : IntKind.i64.wrap (y - 1) = y - 1 := by rw [IntKind.wrap_i64]; omega
  have w1 : IntKind.i64.wrap (y - 1970) = y - 1970 := by rw [IntKind.wrap_i64]; omega
  have w2 : IntKind.i64.wrap (365 * (y - 1970)) = 365 * (y - 1970) := by rw [IntKind.wrap_i64]; omega
  obtain ⟨a, ha⟩ : ∃ a, (y - 1) / 4 = a := ⟨_, rfl⟩
  obtain ⟨b, hb⟩ : ∃ b, (y - 1) / 100 = b := ⟨_, rfl⟩
  obtain ⟨c, hc⟩ : ∃ c, (y - 1) / 400 = c := ⟨_, rfl⟩
  rw [ha] at e1 hR; rw [hb] at e2 hR; rw [hc] at e3 hR
  have u1 : IntKind.i64.wrap a = a := by rw [IntKind.wrap_i64]; omega
  have u2 : IntKind.i64.wrap b = b := by rw [IntKind.wrap_i64]; omega
  have u3 : IntKind.i64.wrap c = c := by rw [IntKind.wrap_i64]; omega
  have v1 : IntKind.i64.wrap (365 * (y - 1970) + a) = 365 * (y - 1970) + a := by rw [IntKind.wrap_i64]; omega
  have v2 : IntKind.i64.wrap (365 * (y - 1970) + a - b) = 365 * (y - 1970) + a - b := by rw [IntKind.wrap_i64]; omega
  have v3 : IntKind.i64.wrap (365 * (y - 1970) + a - b + c) = 365 * (y - 1970) + a - b + c := by rw [IntKind.wrap_i64]; omega
  have v4 : IntKind.i64.wrap (365 * (y - 1970) + a - b + c - 492) = 365 * (y - 1970) + a - b + c - 492 := by rw [IntKind.wrap_i64]; omega
  have v5 : IntKind.i64.wrap (365 * (y - 1970) + a - b + c - 492 + 19) = 365 * (y - 1970) + a - b + c - 492 + 19 := by rw [IntKind.wrap_i64]; omega
  have v6 : IntKind.i64.wrap (365 * (y - 1970) + a - b + c - 492 + 19 - 4) = 365 * (y - 1970) + a - b + c - 492 + 19 - 4 := by rw [IntKind.wrap_i64]; omega
  have HR := Lib.hid hR
  clear ha hb hc hR
  rw [← HR.out]
  go_enter Tryz.func145, Tryz.ntmps145
  go_wp2
  go_ret
  exact ⟨rfl, rfl⟩
set_option maxHeartbeats 4000000 in
theorem dyear_any (d : Int) (hd : 0 ≤ d ∧ d ≤ 3000000) (w : World) :
    Calls Tryz.prog 92 #[.int .i64 d] w fun e w' => e = .returned (.tuple #[.int .i64 (dyearO d).1, .int .i64 (dyearO d).2]) ∧ w' = w := by
  obtain ⟨R, hR⟩ : ∃ R, dyear 9000 d (1970 + d / 366) = R := ⟨_, rfl⟩
  have hO : dyearO d = (R, d - dahead R) := by unfold dyearO; rw [hR]
  rw [hO]
  have e1 : d.tdiv 366 = d / 366 := Int.tdiv_eq_ediv_of_nonneg hd.1
  obtain ⟨a, ha⟩ : ∃ a, d / 366 = a := ⟨_, rfl⟩
  rw [ha] at e1 hR
  have hab : 0 ≤ a ∧ a ≤ 9000 := by omega
  have w0 : IntKind.i64.wrap a = a := by rw [IntKind.wrap_i64]; omega
  have w1 : IntKind.i64.wrap (1970 + a) = 1970 + a := by rw [IntKind.wrap_i64]; omega
  have hinv0 : dahead (1970 + a) ≤ d := by have := (dahead_ge (1970 + a) (by omega)).2; omega
  have HR := Lib.hid hR
  have HI := Lib.hid hinv0
  clear hR ha hO hinv0
  go_enter Tryz.func92, Tryz.ntmps92
  go_wp2_with fail
  go_loopw [2] (fun v wr => ∃ (y : Int) (f : Nat), v = .int .i64 y ∧ 1970 ≤ y ∧ y ≤ 90000 ∧ Hid (dahead y ≤ d) ∧ Hid (dyear f d y = R) ∧ Hid (d < 365 * (y - 1970) + 365 * f) ∧ wr = w) (fun v _ => 100000 - (intD v).toNat)
  case atStart => exact ⟨1970 + a, 9000, rfl, by omega, by omega, HI, HR, Lib.hid (by omega), rfl⟩
  case round =>
    obtain ⟨y, f, rfl, hy1, hy2, HA, HY, HF, rfl⟩ := hrel
    have hy3 : y ≤ 12000 := by have := (dahead_ge y hy1).1; have := HA.out; omega
    have k1 := dahead_any (y + 1) (by omega) wr
    have k2 := dahead_any y (by omega) wr
    have w2 : IntKind.i64.wrap (y + 1) = y + 1 := by rw [IntKind.wrap_i64]; omega
    have hge := dahead_ge y hy1
    have hge1 := dahead_ge (y + 1) (by omega)
    by_cases hle : dahead (y + 1) ≤ d
    · have hnext : ∃ f', dyear f' d (y + 1) = R ∧ d < 365 * (y + 1 - 1970) + 365 * f' := by
        cases f with
        | zero => have := HF.out; omega
        | succ f =>
          refine ⟨f, ?_, by have := HF.out; omega⟩
          have := HY.out
          rw [dyear, if_pos hle] at this
          exact this
      obtain ⟨f', hn1, hn2⟩ := hnext
      have HN := Lib.hid (And.intro hn1 (And.intro hn2 hle))
      have t1 : decide (dahead (y + 1) ≤ d) = true := by simpa using hle
      have K1 := Lib.hid k1
      clear k1 k2 hge hge1 hn1 hn2 hle HY HF
      go_wp2_with fail
      (with_reducible refine K1.out.mono ?_)
      rintro e w1 ⟨rfl, rfl⟩
      go_wp2
      go_roundw
      case rel => exact ⟨y + 1, f', rfl, by omega, by omega, Lib.hid HN.out.2.2, Lib.hid HN.out.1, Lib.hid HN.out.2.1, trivial⟩
      case measure => simp [intD]; omega
    · have hyR : y = R := by
        have := HY.out
        cases f with
        | zero => exact this
        | succ f => rw [dyear, if_neg hle] at this; exact this
      subst hyR
      have t1 : decide (dahead (y + 1) ≤ d) = false := by simpa using hle
      have w3 : IntKind.i64.wrap (d - dahead y) = d - dahead y := by rw [IntKind.wrap_i64]; omega
      have K1 := Lib.hid k1
      have K2 := Lib.hid k2
      clear k1 k2 hge hge1 hle HY HF
      go_wp2_with fail
      (with_reducible refine K1.out.mono ?_)
      rintro e w1 ⟨rfl, rfl⟩
      go_wp2_with fail
      (with_reducible refine K2.out.mono ?_)
      rintro e w1 ⟨rfl, rfl⟩
      go_wp2
      go_ret2
      exact ⟨rfl, rfl⟩
end Go.Proofs.YtgmmjhcklhajiaaGreatDoor
/- Dates: the walks of name and of the names of the days. -/
namespace Go.Proofs.YtgmmjhcklhajiaaGreatDoor
open Go.RowKit
set_option maxRecDepth 100000

/-- What the library's own texts read. -/
def DEnv (w : World) : Prop := MaxL w ∧ 0 < w.heap.size ∧ Lib.TabIs Tryz.prog w "strings.asciiSpace" .u8 Lib.asciiSpaceTab
theorem var_heap {P : Program} {w w' : World} {name : String} {k : IntKind} {zs : List Int} {g : Nat} (hg : P.globalNamed name = some g) (h : Lib.TabIs P w name k zs) (hb : w'.heap[g]? = w.heap[g]?) : Lib.TabIs P w' name k zs := by
  unfold Lib.TabIs World.var? at *
  rw [hg] at h ⊢
  simp only [Option.bind_some] at h ⊢
  rw [hb]
  exact h
theorem DEnv.below {w w' : World} (h : DEnv w) (hb : Below w.heap.size w w') : DEnv w' :=
  ⟨h.1.below hb, Nat.lt_of_lt_of_le h.2.1 hb.size, var_heap (g := 0) (by kernel_rfl) h.2.2 (hb.block _ h.2.1)⟩
def dayS : ByteArray := ⟨#[84, 104, 117, 114, 115, 100, 97, 121, 32, 70, 114, 105, 100, 97, 121, 32, 83, 97, 116, 117, 114, 100, 97, 121, 32, 83, 117, 110, 100, 97, 121, 32, 77, 111, 110, 100, 97, 121, 32, 84, 117, 101, 115, 100, 97, 121, 32, 87, 101, 100, 110, 101, 115, 100, 97, 121]⟩
theorem fields_days : Lib.fields dayS.data.toList = ddays := by decide +kernel
theorem ddays_any (w : World) (h : DEnv w) :
    Calls Tryz.prog 94 #[.string ⟨#[84, 104, 117, 114, 115, 100, 97, 121, 32, 70, 114, 105, 100, 97, 121, 32, 83, 97, 116, 117, 114, 100, 97, 121, 32, 83, 117, 110, 100, 97, 121, 32, 77, 111, 110, 100, 97, 121, 32, 84, 117, 101, 115, 100, 97, 121, 32, 87, 101, 100, 110, 101, 115, 100, 97, 121]⟩] w fun e w' => e = .returned (.slice (some ⟨w.heap.size, 0, none⟩) 7 7) ∧ Rd (some ⟨w.heap.size, 0, none⟩) 7 1 (strsV ddays) w' ∧ Below w.heap.size w w' := by
  have k := Tryz.strings_Fields dayS w (by decide) (by
    intro j b hb
    have := List.mem_of_getElem? hb
    have hall : (dayS.data.toList.all fun b => decide (b.toNat < 128)) = true := by decide +kernel
    simpa using List.all_eq_true.1 hall b this) h.2.2
  rw [fields_days] at k
  refine k.mono ?_
  rintro e w' ⟨rfl, rfl⟩
  refine ⟨rfl, ⟨rfl, fun _ => ⟨_, 0, rfl, by simp, fun j u hu => ?_⟩⟩, (Below.refl _ w).alloc (Nat.le_refl _) _⟩
  rw [Nat.zero_add, World.cell?_alloc_mark]
  simpa [strsV] using hu
set_option maxHeartbeats 4000000 in
theorem dname0_any (s : ByteArray) (b c : Nat) (w : World) (hr : Rd (some ⟨b, 0, none⟩) 7 1 (strsV ddays) w) :
    Calls Tryz.prog 193 #[.string s, .slice (some ⟨b, 0, none⟩) 7 c, .int .i64 0] w fun e w' => e = .returned (.tuple #[.int .i64 (dname s.data.toList 0 ddays 0).1, .string ⟨(dname s.data.toList 0 ddays 0).2.1.toArray⟩, .bool (dname s.data.toList 0 ddays 0).2.2]) ∧ w' = w := by
  obtain ⟨R, hR⟩ : ∃ R, dname s.data.toList 0 ddays 0 = R := ⟨_, rfl⟩
  rw [hR]
  have hlen : ∀ x ∈ ddays, 3 ≤ x.length := by decide
  have hl7 : ddays.length = 7 := rfl
  have HR := Lib.hid hR; have HRD := Lib.hid hr; have HLEN := Lib.hid hlen; have HL7 := Lib.hid hl7
  clear hR hr hlen hl7
  generalize ddays = ls at *
  go_enter Tryz.func193, Tryz.ntmps193
  go_wp2_with fail
  go_loopw [15] (fun i wr => ∃ j : Nat, j ≤ 7 ∧ i = .int .i64 j ∧ Hid (dname s.data.toList 0 (ls.drop j) j = R) ∧ wr = w) (fun i _ => 7 - (intD i).toNat)
  case atStart => exact ⟨0, Nat.zero_le _, rfl, HR, rfl⟩
  case round =>
    obtain ⟨j, hj, rfl, HD, rfl⟩ := hrel
    by_cases hj7 : j < 7
    · have hjl : j < ls.length := by rw [HL7.out]; exact hj7
      obtain ⟨b', o', e, _, d0⟩ := HRD.out.str_at hjl
      cases e
      have h3 := HLEN.out ls[j] (List.getElem_mem hjl)
      have hdr : ls.drop j = ls[j] :: ls.drop (j + 1) := List.drop_eq_getElem_cons hjl
      have hD := HD.out
      rw [hdr, dname] at hD
      generalize ls[j] = x at *
      obtain ⟨o, rfl⟩ : ∃ o : ByteArray, x = o.data.toList := ⟨⟨x.toArray⟩, by simp⟩
      rw [str_of, Nat.zero_add] at d0
      have i2 : IntKind.i64.wrap ((j : Int) + 1) = ((j + 1 : Nat) : Int) := by rw [IntKind.wrap_i64]; omega
      have j1 : IntKind.i64.wrap (j : Int) = j := by rw [IntKind.wrap_i64]; omega
      simp only [Nat.lt_irrefl, decide_false, cond_false] at hD
      have k1 := Tryz.strings_CutPrefix s o wr
      cases hp : Lib.hasPrefix s.data.toList o.data.toList
      · rw [hp] at hD k1
        simp only [cond_false] at hD
        have HD2 := Lib.hid hD
        have K1 := Lib.hid k1
        clear hD k1 hdr h3 hjl hp HD
        go_wp2_with fail
        (with_reducible refine K1.out.mono ?_)
        rintro e w1 ⟨rfl, rfl⟩
        go_wp2
        go_roundw
        case rel => exact ⟨j + 1, hj7, rfl, HD2, trivial⟩
        case measure => simp [intD]; omega
      · rw [hp] at hD k1
        simp only [cond_true] at hD
        have htp : Lib.trimPrefix s.data.toList o.data.toList = s.data.toList.drop o.data.toList.length := by unfold Lib.trimPrefix; rw [hp]; rfl
        rw [htp] at k1
        have HD2 := Lib.hid hD
        have K1 := Lib.hid k1
        clear hD k1 hdr h3 hjl hp HD htp
        go_wp2_with fail
        (with_reducible refine K1.out.mono ?_)
        rintro e w1 ⟨rfl, rfl⟩
        go_wp2
        go_ret3
        exact ⟨by rw [← HD2.out]; rfl, rfl⟩
    · have hj2 : j = 7 := by omega
      subst hj2
      have hD := HD.out
      rw [List.drop_eq_nil_of_le (by rw [HL7.out]; exact Nat.le_refl _), dname] at hD
      have HD2 := Lib.hid hD
      clear hD
      go_wp2
      go_ret3
      exact ⟨by rw [← HD2.out]; rfl, rfl⟩
set_option maxHeartbeats 4000000 in
theorem dname3_any (s : ByteArray) (b c : Nat) (w : World) (hr : Rd (some ⟨b, 0, none⟩) 7 1 (strsV ddays) w) :
    Calls Tryz.prog 193 #[.string s, .slice (some ⟨b, 0, none⟩) 7 c, .int .i64 3] w fun e w' => e = .returned (.tuple #[.int .i64 (dname s.data.toList 3 ddays 0).1, .string ⟨(dname s.data.toList 3 ddays 0).2.1.toArray⟩, .bool (dname s.data.toList 3 ddays 0).2.2]) ∧ w' = w := by
  obtain ⟨R, hR⟩ : ∃ R, dname s.data.toList 3 ddays 0 = R := ⟨_, rfl⟩
  rw [hR]
  have hlen : ∀ x ∈ ddays, 3 ≤ x.length := by decide
  have hl7 : ddays.length = 7 := rfl
  have HR := Lib.hid hR; have HRD := Lib.hid hr; have HLEN := Lib.hid hlen; have HL7 := Lib.hid hl7
  clear hR hr hlen hl7
  generalize ddays = ls at *
  go_enter Tryz.func193, Tryz.ntmps193
  go_wp2_with fail
  go_loopw [15] (fun i wr => ∃ j : Nat, j ≤ 7 ∧ i = .int .i64 j ∧ Hid (dname s.data.toList 3 (ls.drop j) j = R) ∧ wr = w) (fun i _ => 7 - (intD i).toNat)
  case atStart => exact ⟨0, Nat.zero_le _, rfl, HR, rfl⟩
  case round =>
    obtain ⟨j, hj, rfl, HD, rfl⟩ := hrel
    by_cases hj7 : j < 7
    · have hjl : j < ls.length := by rw [HL7.out]; exact hj7
      obtain ⟨b', o', e, _, d0⟩ := HRD.out.str_at hjl
      cases e
      have h3 := HLEN.out ls[j] (List.getElem_mem hjl)
      have hdr : ls.drop j = ls[j] :: ls.drop (j + 1) := List.drop_eq_getElem_cons hjl
      have hD := HD.out
      rw [hdr, dname] at hD
      generalize ls[j] = x at *
      obtain ⟨o, rfl⟩ : ∃ o : ByteArray, x = o.data.toList := ⟨⟨x.toArray⟩, by simp⟩
      rw [str_of, Nat.zero_add] at d0
      have i2 : IntKind.i64.wrap ((j : Int) + 1) = ((j + 1 : Nat) : Int) := by rw [IntKind.wrap_i64]; omega
      have j1 : IntKind.i64.wrap (j : Int) = j := by rw [IntKind.wrap_i64]; omega
      have hdec : decide (0 < 3) = true := rfl
      simp only [hdec, cond_true] at hD
      have hex : (o.extract 0 3).data.toList = o.data.toList.take 3 := by rw [Lib.extract_data]; simp
      have k1 := Tryz.strings_CutPrefix s (o.extract 0 3) wr
      rw [hex] at k1
      have hl3 : (o.data.toList.take 3).length = 3 := by rw [List.length_take]; omega
      rw [hl3] at hD
      have h3s : 3 ≤ o.size := by rw [Lib.size_eq]; exact h3
      cases hp : Lib.hasPrefix s.data.toList (o.data.toList.take 3)
      · rw [hp] at hD k1
        simp only [cond_false] at hD
        have HD2 := Lib.hid hD
        have K1 := Lib.hid k1
        clear hD k1 hdr h3 hjl hp HD hex hl3
        go_wp2_with fail
        (with_reducible refine K1.out.mono ?_)
        rintro e w1 ⟨rfl, rfl⟩
        go_wp2
        go_roundw
        case rel => exact ⟨j + 1, hj7, rfl, HD2, trivial⟩
        case measure => simp [intD]; omega
      · rw [hp] at hD k1
        simp only [cond_true] at hD
        have htp : Lib.trimPrefix s.data.toList (o.data.toList.take 3) = s.data.toList.drop (o.data.toList.take 3).length := by unfold Lib.trimPrefix; rw [hp]; rfl
        rw [htp, hl3] at k1
        have HD2 := Lib.hid hD
        have K1 := Lib.hid k1
        clear hD k1 hdr h3 hjl hp HD htp hex hl3
        go_wp2_with fail
        (with_reducible refine K1.out.mono ?_)
        rintro e w1 ⟨rfl, rfl⟩
        go_wp2
        go_ret3
        exact ⟨by rw [← HD2.out]; rfl, rfl⟩
    · have hj2 : j = 7 := by omega
      subst hj2
      have hD := HD.out
      rw [List.drop_eq_nil_of_le (by rw [HL7.out]; exact Nat.le_refl _), dname] at hD
      have HD2 := Lib.hid hD
      clear hD
      go_wp2
      go_ret3
      exact ⟨by rw [← HD2.out]; rfl, rfl⟩
end Go.Proofs.YtgmmjhcklhajiaaGreatDoor
/- Dates: the walk of take, piece by piece (printed by wip/tools/date4.py). -/
namespace Go.Proofs.YtgmmjhcklhajiaaGreatDoor
open Go.RowKit
set_option maxRecDepth 100000

/-- Nothing that was there turned, but for this block. -/
def ButB (mb : Nat) (w w' : World) : Prop := w'.os = w.os ∧ w'.tape = w.tape ∧ w'.output = w.output ∧ w.heap.size ≤ w'.heap.size ∧ ∀ b, b < w.heap.size → b ≠ mb → w'.heap[b]? = w.heap[b]?
theorem ButB.refl (mb : Nat) (w : World) : ButB mb w w := ⟨rfl, rfl, rfl, Nat.le_refl _, fun _ _ _ => rfl⟩
theorem ButB.ofBelow {mb : Nat} {w w' : World} (h : Below w.heap.size w w') : ButB mb w w' := ⟨h.os, h.tape, h.output, h.size, fun b hb _ => h.block b hb⟩
theorem ButB.trans {mb : Nat} {w w1 w' : World} (h : ButB mb w w1) (h2 : ButB mb w1 w') : ButB mb w w' :=
  ⟨h2.1.trans h.1, h2.2.1.trans h.2.1, h2.2.2.1.trans h.2.2.1, Nat.le_trans h.2.2.2.1 h2.2.2.2.1, fun b hb hn => (h2.2.2.2.2 b (Nat.lt_of_lt_of_le hb h.2.2.2.1) hn).trans (h.2.2.2.2 b hb hn)⟩
theorem ButB.set (mb j q : Nat) (w : World) (v : Value) : ButB mb w ((w.drewN q).setCell ⟨mb, j, none⟩ v) :=
  ⟨rfl, rfl, rfl, by simp, fun b _ hn => by simp [World.setCell, Array.getElem?_modify]; intro h; exact absurd h.symm hn⟩
theorem ButB.below {mb B : Nat} {w w' : World} (h : ButB mb w w') (hB : B ≤ mb) (hw : B ≤ w.heap.size) : Below B w w' := ⟨h.1, h.2.1, h.2.2.1, h.2.2.2.1, fun b hb => h.2.2.2.2 b (by omega) (by omega)⟩
def MomAt (mb : Nat) (m : Mom) (w : World) : Prop := w.heap[mb]? = some (.cells #[.int .i64 m.wd, .int .i64 m.day, .int .i64 m.month, .int .i64 m.year, .int .i64 m.hour, .int .i64 m.minute, .int .i64 m.second, .bool m.two] 176 (0, 0))
theorem MomAt.lt {mb : Nat} {m : Mom} {w : World} (h : MomAt mb m w) : mb < w.heap.size := by
  unfold MomAt at h
  rcases Nat.lt_or_ge mb w.heap.size with h' | h'
  · exact h'
  · simp [Array.getElem?_eq_none h'] at h
theorem MomAt.cells {mb : Nat} {m : Mom} {w : World} (h : MomAt mb m w) : w.cell? ⟨mb, 0, none⟩ = some (.int .i64 m.wd) ∧ w.cell? ⟨mb, 1, none⟩ = some (.int .i64 m.day) ∧ w.cell? ⟨mb, 2, none⟩ = some (.int .i64 m.month) ∧ w.cell? ⟨mb, 3, none⟩ = some (.int .i64 m.year) ∧ w.cell? ⟨mb, 4, none⟩ = some (.int .i64 m.hour) ∧ w.cell? ⟨mb, 5, none⟩ = some (.int .i64 m.minute) ∧ w.cell? ⟨mb, 6, none⟩ = some (.int .i64 m.second) ∧ w.cell? ⟨mb, 7, none⟩ = some (.bool m.two) ∧ ∀ j, w.frozen? ⟨mb, j, none⟩ = false := by
  unfold MomAt at h
  refine ⟨?_, ?_, ?_, ?_, ?_, ?_, ?_, ?_, fun j => ?_⟩ <;> first | simp [World.cell?, h] | simp [World.frozen?, h]
theorem MomAt.below {mb : Nat} {m : Mom} {w w' : World} (h : MomAt mb m w) (hb : Below w.heap.size w w') : MomAt mb m w' := (hb.block mb h.lt).trans h
theorem MomAt.set0 {mb q : Nat} {m : Mom} {w : World} (h : MomAt mb m w) (v : Int) : MomAt mb { m with wd := v } ((w.drewN q).setCell ⟨mb, 0, none⟩ (.int .i64 v)) := by
  unfold MomAt at *
  simp [World.setCell, Array.getElem?_modify, h]
theorem MomAt.set1 {mb q : Nat} {m : Mom} {w : World} (h : MomAt mb m w) (v : Int) : MomAt mb { m with day := v } ((w.drewN q).setCell ⟨mb, 1, none⟩ (.int .i64 v)) := by
  unfold MomAt at *
  simp [World.setCell, Array.getElem?_modify, h]
theorem MomAt.set2 {mb q : Nat} {m : Mom} {w : World} (h : MomAt mb m w) (v : Int) : MomAt mb { m with month := v } ((w.drewN q).setCell ⟨mb, 2, none⟩ (.int .i64 v)) := by
  unfold MomAt at *
  simp [World.setCell, Array.getElem?_modify, h]
theorem MomAt.set3 {mb q : Nat} {m : Mom} {w : World} (h : MomAt mb m w) (v : Int) : MomAt mb { m with year := v } ((w.drewN q).setCell ⟨mb, 3, none⟩ (.int .i64 v)) := by
  unfold MomAt at *
  simp [World.setCell, Array.getElem?_modify, h]
theorem MomAt.set4 {mb q : Nat} {m : Mom} {w : World} (h : MomAt mb m w) (v : Int) : MomAt mb { m with hour := v } ((w.drewN q).setCell ⟨mb, 4, none⟩ (.int .i64 v)) := by
  unfold MomAt at *
  simp [World.setCell, Array.getElem?_modify, h]
theorem MomAt.set5 {mb q : Nat} {m : Mom} {w : World} (h : MomAt mb m w) (v : Int) : MomAt mb { m with minute := v } ((w.drewN q).setCell ⟨mb, 5, none⟩ (.int .i64 v)) := by
  unfold MomAt at *
  simp [World.setCell, Array.getElem?_modify, h]
theorem MomAt.set6 {mb q : Nat} {m : Mom} {w : World} (h : MomAt mb m w) (v : Int) : MomAt mb { m with second := v } ((w.drewN q).setCell ⟨mb, 6, none⟩ (.int .i64 v)) := by
  unfold MomAt at *
  simp [World.setCell, Array.getElem?_modify, h]
theorem MomAt.set7 {mb q : Nat} {m : Mom} {w : World} (h : MomAt mb m w) (v : Bool) : MomAt mb { m with two := v } ((w.drewN q).setCell ⟨mb, 7, none⟩ (.bool v)) := by
  unfold MomAt at *
  simp [World.setCell, Array.getElem?_modify, h]
set_option maxHeartbeats 4000000 in
theorem dtake68_any (mb : Nat) (m : Mom) (s : ByteArray) (w : World) (_hE : DEnv w) (hm : MomAt mb m w) :
    Calls Tryz.prog 152 #[.pointer (some ⟨mb, 0, none⟩), .int .i32 68, .string s] w fun e w' => e = .returned (.tuple #[.string ⟨(dtake m 68 s.data.toList).2.1.toArray⟩, .bool (dtake m 68 s.data.toList).2.2]) ∧ ButB mb w w' ∧ MomAt mb (dtake m 68 s.data.toList).1 w' := by
  have hd : dtake m 68 s.data.toList = ({ m with day := (dnumL s.data.toList 2).1 }, (dnumL s.data.toList 2).2) := by unfold dtake; simp
  rw [hd]
  have k := dnumber_any s 2 (by decide) w
  rw [show ((2 : Nat) : Int) = 2 from rfl] at k
  generalize dnumL s.data.toList 2 = r at *
  obtain ⟨v, rest, is⟩ := r
  simp only at k ⊢
  obtain ⟨c0, c1, c2, c3, c4, c5, c6, c7, hf⟩ := hm.cells
  have f1 := hf 1
  have K := Lib.hid k; have HM := Lib.hid hm
  clear k hm hd hf
  go_enter Tryz.func152, Tryz.ntmps152
  go_wp2_with fail
  (with_reducible refine K.out.mono ?_)
  rintro e w1 ⟨rfl, q, rfl⟩
  go_wp2
  go_ret2
  exact ⟨rfl, ButB.set mb 1 q w _, HM.out.set1 (q := q) v⟩
set_option maxHeartbeats 4000000 in
theorem dtake89_any (mb : Nat) (m : Mom) (s : ByteArray) (w : World) (_hE : DEnv w) (hm : MomAt mb m w) :
    Calls Tryz.prog 152 #[.pointer (some ⟨mb, 0, none⟩), .int .i32 89, .string s] w fun e w' => e = .returned (.tuple #[.string ⟨(dtake m 89 s.data.toList).2.1.toArray⟩, .bool (dtake m 89 s.data.toList).2.2]) ∧ ButB mb w w' ∧ MomAt mb (dtake m 89 s.data.toList).1 w' := by
  have hd : dtake m 89 s.data.toList = ({ m with year := (dnumL s.data.toList 4).1 }, (dnumL s.data.toList 4).2) := by unfold dtake; simp
  rw [hd]
  have k := dnumber_any s 4 (by decide) w
  rw [show ((4 : Nat) : Int) = 4 from rfl] at k
  generalize dnumL s.data.toList 4 = r at *
  obtain ⟨v, rest, is⟩ := r
  simp only at k ⊢
  obtain ⟨c0, c1, c2, c3, c4, c5, c6, c7, hf⟩ := hm.cells
  have f3 := hf 3
  have K := Lib.hid k; have HM := Lib.hid hm
  clear k hm hd hf
  go_enter Tryz.func152, Tryz.ntmps152
  go_wp2_with fail
  (with_reducible refine K.out.mono ?_)
  rintro e w1 ⟨rfl, q, rfl⟩
  go_wp2
  go_ret2
  exact ⟨rfl, ButB.set mb 3 q w _, HM.out.set3 (q := q) v⟩
set_option maxHeartbeats 4000000 in
theorem dtake121_any (mb : Nat) (m : Mom) (s : ByteArray) (w : World) (_hE : DEnv w) (hm : MomAt mb m w) :
    Calls Tryz.prog 152 #[.pointer (some ⟨mb, 0, none⟩), .int .i32 121, .string s] w fun e w' => e = .returned (.tuple #[.string ⟨(dtake m 121 s.data.toList).2.1.toArray⟩, .bool (dtake m 121 s.data.toList).2.2]) ∧ ButB mb w w' ∧ MomAt mb (dtake m 121 s.data.toList).1 w' := by
  have hd : dtake m 121 s.data.toList = ({ m with year := (dnumL s.data.toList 2).1, two := true }, (dnumL s.data.toList 2).2) := by unfold dtake; simp
  rw [hd]
  have k := dnumber_any s 2 (by decide) w
  rw [show ((2 : Nat) : Int) = 2 from rfl] at k
  generalize dnumL s.data.toList 2 = r at *
  obtain ⟨v, rest, is⟩ := r
  simp only at k ⊢
  obtain ⟨c0, c1, c2, c3, c4, c5, c6, c7, hf⟩ := hm.cells
  have f3 := hf 3
  have f7 := hf 7
  have K := Lib.hid k; have HM := Lib.hid hm
  clear k hm hd hf
  go_enter Tryz.func152, Tryz.ntmps152
  go_wp2_with fail
  (with_reducible refine K.out.mono ?_)
  rintro e w1 ⟨rfl, q, rfl⟩
  have c7' : ((w.drewN q).setCell ⟨mb, 3, none⟩ (.int .i64 v)).cell? ⟨mb, 7, none⟩ = some (.bool m.two) := by
    rw [World.cell?_setCell_other _ _ _ _ (by intro e; cases e)]; exact c7
  have f7' : ((w.drewN q).setCell ⟨mb, 3, none⟩ (.int .i64 v)).frozen? ⟨mb, 7, none⟩ = false := by rw [World.frozen?_setCell]; exact f7
  go_wp2
  go_ret2
  exact ⟨rfl, (ButB.set mb 3 q w _).trans (ButB.set mb 7 0 _ _), MomAt.set7 (q := 0) (HM.out.set3 (q := q) v) true⟩
set_option maxHeartbeats 4000000 in
theorem dtake72_any (mb : Nat) (m : Mom) (s : ByteArray) (w : World) (_hE : DEnv w) (hm : MomAt mb m w) :
    Calls Tryz.prog 152 #[.pointer (some ⟨mb, 0, none⟩), .int .i32 72, .string s] w fun e w' => e = .returned (.tuple #[.string ⟨(dtake m 72 s.data.toList).2.1.toArray⟩, .bool (dtake m 72 s.data.toList).2.2]) ∧ ButB mb w w' ∧ MomAt mb (dtake m 72 s.data.toList).1 w' := by
  have hd : dtake m 72 s.data.toList = ({ m with hour := (dnumL s.data.toList 2).1 }, (dnumL s.data.toList 2).2) := by unfold dtake; simp
  rw [hd]
  have k := dnumber_any s 2 (by decide) w
  rw [show ((2 : Nat) : Int) = 2 from rfl] at k
  generalize dnumL s.data.toList 2 = r at *
  obtain ⟨v, rest, is⟩ := r
  simp only at k ⊢
  obtain ⟨c0, c1, c2, c3, c4, c5, c6, c7, hf⟩ := hm.cells
  have f4 := hf 4
  have K := Lib.hid k; have HM := Lib.hid hm
  clear k hm hd hf
  go_enter Tryz.func152, Tryz.ntmps152
  go_wp2_with fail
  (with_reducible refine K.out.mono ?_)
  rintro e w1 ⟨rfl, q, rfl⟩
  go_wp2
  go_ret2
  exact ⟨rfl, ButB.set mb 4 q w _, HM.out.set4 (q := q) v⟩
set_option maxHeartbeats 4000000 in
theorem dtake73_any (mb : Nat) (m : Mom) (s : ByteArray) (w : World) (_hE : DEnv w) (hm : MomAt mb m w) :
    Calls Tryz.prog 152 #[.pointer (some ⟨mb, 0, none⟩), .int .i32 73, .string s] w fun e w' => e = .returned (.tuple #[.string ⟨(dtake m 73 s.data.toList).2.1.toArray⟩, .bool (dtake m 73 s.data.toList).2.2]) ∧ ButB mb w w' ∧ MomAt mb (dtake m 73 s.data.toList).1 w' := by
  have hd : dtake m 73 s.data.toList = ({ m with minute := (dnumL s.data.toList 2).1 }, (dnumL s.data.toList 2).2) := by unfold dtake; simp
  rw [hd]
  have k := dnumber_any s 2 (by decide) w
  rw [show ((2 : Nat) : Int) = 2 from rfl] at k
  generalize dnumL s.data.toList 2 = r at *
  obtain ⟨v, rest, is⟩ := r
  simp only at k ⊢
  obtain ⟨c0, c1, c2, c3, c4, c5, c6, c7, hf⟩ := hm.cells
  have f5 := hf 5
  have K := Lib.hid k; have HM := Lib.hid hm
  clear k hm hd hf
  go_enter Tryz.func152, Tryz.ntmps152
  go_wp2_with fail
  (with_reducible refine K.out.mono ?_)
  rintro e w1 ⟨rfl, q, rfl⟩
  go_wp2
  go_ret2
  exact ⟨rfl, ButB.set mb 5 q w _, HM.out.set5 (q := q) v⟩
set_option maxHeartbeats 4000000 in
theorem dtake83_any (mb : Nat) (m : Mom) (s : ByteArray) (w : World) (_hE : DEnv w) (hm : MomAt mb m w) :
    Calls Tryz.prog 152 #[.pointer (some ⟨mb, 0, none⟩), .int .i32 83, .string s] w fun e w' => e = .returned (.tuple #[.string ⟨(dtake m 83 s.data.toList).2.1.toArray⟩, .bool (dtake m 83 s.data.toList).2.2]) ∧ ButB mb w w' ∧ MomAt mb (dtake m 83 s.data.toList).1 w' := by
  have hd : dtake m 83 s.data.toList = ({ m with second := (dnumL s.data.toList 2).1 }, (dnumL s.data.toList 2).2) := by unfold dtake; simp
  rw [hd]
  have k := dnumber_any s 2 (by decide) w
  rw [show ((2 : Nat) : Int) = 2 from rfl] at k
  generalize dnumL s.data.toList 2 = r at *
  obtain ⟨v, rest, is⟩ := r
  simp only at k ⊢
  obtain ⟨c0, c1, c2, c3, c4, c5, c6, c7, hf⟩ := hm.cells
  have f6 := hf 6
  have K := Lib.hid k; have HM := Lib.hid hm
  clear k hm hd hf
  go_enter Tryz.func152, Tryz.ntmps152
  go_wp2_with fail
  (with_reducible refine K.out.mono ?_)
  rintro e w1 ⟨rfl, q, rfl⟩
  go_wp2
  go_ret2
  exact ⟨rfl, ButB.set mb 6 q w _, HM.out.set6 (q := q) v⟩
set_option maxHeartbeats 4000000 in
theorem dtake119_any (mb : Nat) (m : Mom) (s : ByteArray) (w : World) (hE : DEnv w) (hm : MomAt mb m w) :
    Calls Tryz.prog 152 #[.pointer (some ⟨mb, 0, none⟩), .int .i32 119, .string s] w fun e w' => e = .returned (.tuple #[.string ⟨(dtake m 119 s.data.toList).2.1.toArray⟩, .bool (dtake m 119 s.data.toList).2.2]) ∧ ButB mb w w' ∧ MomAt mb (dtake m 119 s.data.toList).1 w' := by
  have hd : dtake m 119 s.data.toList = ({ m with wd := (dname s.data.toList 3 ddays 0).1 }, (dname s.data.toList 3 ddays 0).2) := by unfold dtake; simp
  rw [hd]
  have k0 := ddays_any w hE
  have k := fun w' hr => dname3_any s w.heap.size 7 w' hr
  generalize dname s.data.toList 3 ddays 0 = r at *
  obtain ⟨v, rest, is⟩ := r
  simp only at k ⊢
  have K0 := Lib.hid k0; have K := Lib.hid k; have HM := Lib.hid hm
  clear k0 k hm hd hE
  go_enter Tryz.func152, Tryz.ntmps152
  go_wp2_with fail
  (with_reducible refine K0.out.mono ?_)
  rintro e w1 ⟨rfl, hr, hb⟩
  have k1 := K.out w1 hr
  have hm1 := HM.out.below hb
  obtain ⟨c0, _, _, _, _, _, _, _, hf⟩ := hm1.cells
  have f0 := hf 0
  have K1 := Lib.hid k1; have HM1 := Lib.hid hm1; have HB := Lib.hid hb
  clear k1 hm1 hr hb hf
  go_wp2_with fail
  (with_reducible refine K1.out.mono ?_)
  rintro e w2 ⟨rfl, rfl⟩
  go_wp2
  go_ret2
  exact ⟨rfl, (ButB.ofBelow HB.out).trans (ButB.set mb 0 0 _ _), HM1.out.set0 (q := 0) v⟩
set_option maxHeartbeats 4000000 in
theorem dtake87_any (mb : Nat) (m : Mom) (s : ByteArray) (w : World) (hE : DEnv w) (hm : MomAt mb m w) :
    Calls Tryz.prog 152 #[.pointer (some ⟨mb, 0, none⟩), .int .i32 87, .string s] w fun e w' => e = .returned (.tuple #[.string ⟨(dtake m 87 s.data.toList).2.1.toArray⟩, .bool (dtake m 87 s.data.toList).2.2]) ∧ ButB mb w w' ∧ MomAt mb (dtake m 87 s.data.toList).1 w' := by
  have hd : dtake m 87 s.data.toList = ({ m with wd := (dname s.data.toList 0 ddays 0).1 }, (dname s.data.toList 0 ddays 0).2) := by unfold dtake; simp
  rw [hd]
  have k0 := ddays_any w hE
  have k := fun w' hr => dname0_any s w.heap.size 7 w' hr
  generalize dname s.data.toList 0 ddays 0 = r at *
  obtain ⟨v, rest, is⟩ := r
  simp only at k ⊢
  have K0 := Lib.hid k0; have K := Lib.hid k; have HM := Lib.hid hm
  clear k0 k hm hd hE
  go_enter Tryz.func152, Tryz.ntmps152
  go_wp2_with fail
  (with_reducible refine K0.out.mono ?_)
  rintro e w1 ⟨rfl, hr, hb⟩
  have k1 := K.out w1 hr
  have hm1 := HM.out.below hb
  obtain ⟨c0, _, _, _, _, _, _, _, hf⟩ := hm1.cells
  have f0 := hf 0
  have K1 := Lib.hid k1; have HM1 := Lib.hid hm1; have HB := Lib.hid hb
  clear k1 hm1 hr hb hf
  go_wp2_with fail
  (with_reducible refine K1.out.mono ?_)
  rintro e w2 ⟨rfl, rfl⟩
  go_wp2
  go_ret2
  exact ⟨rfl, (ButB.ofBelow HB.out).trans (ButB.set mb 0 0 _ _), HM1.out.set0 (q := 0) v⟩
set_option maxHeartbeats 4000000 in
theorem dtake44_any (mb : Nat) (m : Mom) (s : ByteArray) (w : World) (_hE : DEnv w) (hm : MomAt mb m w) :
    Calls Tryz.prog 152 #[.pointer (some ⟨mb, 0, none⟩), .int .i32 44, .string s] w fun e w' => e = .returned (.tuple #[.string ⟨(dtake m 44 s.data.toList).2.1.toArray⟩, .bool (dtake m 44 s.data.toList).2.2]) ∧ ButB mb w w' ∧ MomAt mb (dtake m 44 s.data.toList).1 w' := by
  have hd : dtake m 44 s.data.toList = (if Lib.hasPrefix s.data.toList [44] = true then (m, s.data.toList.drop 1, true) else (m, s.data.toList, false)) := by unfold dtake; simp
  rw [hd]
  have k := Tryz.strings_CutPrefix s ⟨#[44]⟩ w
  have e1 : (⟨#[44]⟩ : ByteArray).data.toList = [44] := rfl
  rw [e1] at k
  unfold Lib.trimPrefix at k
  rw [show ([44] : List UInt8).length = 1 from rfl] at k
  generalize s.data.toList.drop 1 = dr at *
  cases hp : Lib.hasPrefix s.data.toList [44]
  all_goals
    rw [hp] at k
    simp only [Bool.false_eq_true, if_false, if_true] at k ⊢
    have K := Lib.hid k; have HM := Lib.hid hm
    clear k hm hd hp e1
    go_enter Tryz.func152, Tryz.ntmps152
    go_wp2_with fail
    rw [show Utf8.encode 44 = ⟨#[44]⟩ from by decide +kernel]
    (with_reducible refine K.out.mono ?_)
    rintro e w1 ⟨rfl, rfl⟩
    go_wp2
    go_ret2
    exact ⟨rfl, ButB.refl _ _, HM.out⟩
set_option maxHeartbeats 4000000 in
theorem dtake32_any (mb : Nat) (m : Mom) (s : ByteArray) (w : World) (_hE : DEnv w) (hm : MomAt mb m w) :
    Calls Tryz.prog 152 #[.pointer (some ⟨mb, 0, none⟩), .int .i32 32, .string s] w fun e w' => e = .returned (.tuple #[.string ⟨(dtake m 32 s.data.toList).2.1.toArray⟩, .bool (dtake m 32 s.data.toList).2.2]) ∧ ButB mb w w' ∧ MomAt mb (dtake m 32 s.data.toList).1 w' := by
  have hd : dtake m 32 s.data.toList = (if Lib.hasPrefix s.data.toList [32] = true then (m, s.data.toList.drop 1, true) else (m, s.data.toList, false)) := by unfold dtake; simp
  rw [hd]
  have k := Tryz.strings_CutPrefix s ⟨#[32]⟩ w
  have e1 : (⟨#[32]⟩ : ByteArray).data.toList = [32] := rfl
  rw [e1] at k
  unfold Lib.trimPrefix at k
  rw [show ([32] : List UInt8).length = 1 from rfl] at k
  generalize s.data.toList.drop 1 = dr at *
  cases hp : Lib.hasPrefix s.data.toList [32]
  all_goals
    rw [hp] at k
    simp only [Bool.false_eq_true, if_false, if_true] at k ⊢
    have K := Lib.hid k; have HM := Lib.hid hm
    clear k hm hd hp e1
    go_enter Tryz.func152, Tryz.ntmps152
    go_wp2_with fail
    rw [show Utf8.encode 32 = ⟨#[32]⟩ from by decide +kernel]
    (with_reducible refine K.out.mono ?_)
    rintro e w1 ⟨rfl, rfl⟩
    go_wp2
    go_ret2
    exact ⟨rfl, ButB.refl _ _, HM.out⟩
set_option maxHeartbeats 4000000 in
theorem dtake58_any (mb : Nat) (m : Mom) (s : ByteArray) (w : World) (_hE : DEnv w) (hm : MomAt mb m w) :
    Calls Tryz.prog 152 #[.pointer (some ⟨mb, 0, none⟩), .int .i32 58, .string s] w fun e w' => e = .returned (.tuple #[.string ⟨(dtake m 58 s.data.toList).2.1.toArray⟩, .bool (dtake m 58 s.data.toList).2.2]) ∧ ButB mb w w' ∧ MomAt mb (dtake m 58 s.data.toList).1 w' := by
  have hd : dtake m 58 s.data.toList = (if Lib.hasPrefix s.data.toList [58] = true then (m, s.data.toList.drop 1, true) else (m, s.data.toList, false)) := by unfold dtake; simp
  rw [hd]
  have k := Tryz.strings_CutPrefix s ⟨#[58]⟩ w
  have e1 : (⟨#[58]⟩ : ByteArray).data.toList = [58] := rfl
  rw [e1] at k
  unfold Lib.trimPrefix at k
  rw [show ([58] : List UInt8).length = 1 from rfl] at k
  generalize s.data.toList.drop 1 = dr at *
  cases hp : Lib.hasPrefix s.data.toList [58]
  all_goals
    rw [hp] at k
    simp only [Bool.false_eq_true, if_false, if_true] at k ⊢
    have K := Lib.hid k; have HM := Lib.hid hm
    clear k hm hd hp e1
    go_enter Tryz.func152, Tryz.ntmps152
    go_wp2_with fail
    rw [show Utf8.encode 58 = ⟨#[58]⟩ from by decide +kernel]
    (with_reducible refine K.out.mono ?_)
    rintro e w1 ⟨rfl, rfl⟩
    go_wp2
    go_ret2
    exact ⟨rfl, ButB.refl _ _, HM.out⟩
set_option maxHeartbeats 4000000 in
theorem dtake71_any (mb : Nat) (m : Mom) (s : ByteArray) (w : World) (_hE : DEnv w) (hm : MomAt mb m w) :
    Calls Tryz.prog 152 #[.pointer (some ⟨mb, 0, none⟩), .int .i32 71, .string s] w fun e w' => e = .returned (.tuple #[.string ⟨(dtake m 71 s.data.toList).2.1.toArray⟩, .bool (dtake m 71 s.data.toList).2.2]) ∧ ButB mb w w' ∧ MomAt mb (dtake m 71 s.data.toList).1 w' := by
  have hd : dtake m 71 s.data.toList = (if Lib.hasPrefix s.data.toList [71] = true then (m, s.data.toList.drop 1, true) else (m, s.data.toList, false)) := by unfold dtake; simp
  rw [hd]
  have k := Tryz.strings_CutPrefix s ⟨#[71]⟩ w
  have e1 : (⟨#[71]⟩ : ByteArray).data.toList = [71] := rfl
  rw [e1] at k
  unfold Lib.trimPrefix at k
  rw [show ([71] : List UInt8).length = 1 from rfl] at k
  generalize s.data.toList.drop 1 = dr at *
  cases hp : Lib.hasPrefix s.data.toList [71]
  all_goals
    rw [hp] at k
    simp only [Bool.false_eq_true, if_false, if_true] at k ⊢
    have K := Lib.hid k; have HM := Lib.hid hm
    clear k hm hd hp e1
    go_enter Tryz.func152, Tryz.ntmps152
    go_wp2_with fail
    rw [show Utf8.encode 71 = ⟨#[71]⟩ from by decide +kernel]
    (with_reducible refine K.out.mono ?_)
    rintro e w1 ⟨rfl, rfl⟩
    go_wp2
    go_ret2
    exact ⟨rfl, ButB.refl _ _, HM.out⟩
set_option maxHeartbeats 4000000 in
theorem dtake77_any (mb : Nat) (m : Mom) (s : ByteArray) (w : World) (_hE : DEnv w) (hm : MomAt mb m w) :
    Calls Tryz.prog 152 #[.pointer (some ⟨mb, 0, none⟩), .int .i32 77, .string s] w fun e w' => e = .returned (.tuple #[.string ⟨(dtake m 77 s.data.toList).2.1.toArray⟩, .bool (dtake m 77 s.data.toList).2.2]) ∧ ButB mb w w' ∧ MomAt mb (dtake m 77 s.data.toList).1 w' := by
  have hd : dtake m 77 s.data.toList = (if Lib.hasPrefix s.data.toList [77] = true then (m, s.data.toList.drop 1, true) else (m, s.data.toList, false)) := by unfold dtake; simp
  rw [hd]
  have k := Tryz.strings_CutPrefix s ⟨#[77]⟩ w
  have e1 : (⟨#[77]⟩ : ByteArray).data.toList = [77] := rfl
  rw [e1] at k
  unfold Lib.trimPrefix at k
  rw [show ([77] : List UInt8).length = 1 from rfl] at k
  generalize s.data.toList.drop 1 = dr at *
  cases hp : Lib.hasPrefix s.data.toList [77]
  all_goals
    rw [hp] at k
    simp only [Bool.false_eq_true, if_false, if_true] at k ⊢
    have K := Lib.hid k; have HM := Lib.hid hm
    clear k hm hd hp e1
    go_enter Tryz.func152, Tryz.ntmps152
    go_wp2_with fail
    rw [show Utf8.encode 77 = ⟨#[77]⟩ from by decide +kernel]
    (with_reducible refine K.out.mono ?_)
    rintro e w1 ⟨rfl, rfl⟩
    go_wp2
    go_ret2
    exact ⟨rfl, ButB.refl _ _, HM.out⟩
set_option maxHeartbeats 4000000 in
theorem dtake84_any (mb : Nat) (m : Mom) (s : ByteArray) (w : World) (_hE : DEnv w) (hm : MomAt mb m w) :
    Calls Tryz.prog 152 #[.pointer (some ⟨mb, 0, none⟩), .int .i32 84, .string s] w fun e w' => e = .returned (.tuple #[.string ⟨(dtake m 84 s.data.toList).2.1.toArray⟩, .bool (dtake m 84 s.data.toList).2.2]) ∧ ButB mb w w' ∧ MomAt mb (dtake m 84 s.data.toList).1 w' := by
  have hd : dtake m 84 s.data.toList = (if Lib.hasPrefix s.data.toList [84] = true then (m, s.data.toList.drop 1, true) else (m, s.data.toList, false)) := by unfold dtake; simp
  rw [hd]
  have k := Tryz.strings_CutPrefix s ⟨#[84]⟩ w
  have e1 : (⟨#[84]⟩ : ByteArray).data.toList = [84] := rfl
  rw [e1] at k
  unfold Lib.trimPrefix at k
  rw [show ([84] : List UInt8).length = 1 from rfl] at k
  generalize s.data.toList.drop 1 = dr at *
  cases hp : Lib.hasPrefix s.data.toList [84]
  all_goals
    rw [hp] at k
    simp only [Bool.false_eq_true, if_false, if_true] at k ⊢
    have K := Lib.hid k; have HM := Lib.hid hm
    clear k hm hd hp e1
    go_enter Tryz.func152, Tryz.ntmps152
    go_wp2_with fail
    rw [show Utf8.encode 84 = ⟨#[84]⟩ from by decide +kernel]
    (with_reducible refine K.out.mono ?_)
    rintro e w1 ⟨rfl, rfl⟩
    go_wp2
    go_ret2
    exact ⟨rfl, ButB.refl _ _, HM.out⟩
set_option maxHeartbeats 4000000 in
theorem dtake45_any (mb : Nat) (m : Mom) (s : ByteArray) (w : World) (_hE : DEnv w) (hm : MomAt mb m w) :
    Calls Tryz.prog 152 #[.pointer (some ⟨mb, 0, none⟩), .int .i32 45, .string s] w fun e w' => e = .returned (.tuple #[.string ⟨(dtake m 45 s.data.toList).2.1.toArray⟩, .bool (dtake m 45 s.data.toList).2.2]) ∧ ButB mb w w' ∧ MomAt mb (dtake m 45 s.data.toList).1 w' := by
  have hd : dtake m 45 s.data.toList = (if Lib.hasPrefix s.data.toList [45] = true then (m, s.data.toList.drop 1, true) else (m, s.data.toList, false)) := by unfold dtake; simp
  rw [hd]
  have k := Tryz.strings_CutPrefix s ⟨#[45]⟩ w
  have e1 : (⟨#[45]⟩ : ByteArray).data.toList = [45] := rfl
  rw [e1] at k
  unfold Lib.trimPrefix at k
  rw [show ([45] : List UInt8).length = 1 from rfl] at k
  generalize s.data.toList.drop 1 = dr at *
  cases hp : Lib.hasPrefix s.data.toList [45]
  all_goals
    rw [hp] at k
    simp only [Bool.false_eq_true, if_false, if_true] at k ⊢
    have K := Lib.hid k; have HM := Lib.hid hm
    clear k hm hd hp e1
    go_enter Tryz.func152, Tryz.ntmps152
    go_wp2_with fail
    rw [show Utf8.encode 45 = ⟨#[45]⟩ from by decide +kernel]
    (with_reducible refine K.out.mono ?_)
    rintro e w1 ⟨rfl, rfl⟩
    go_wp2
    go_ret2
    exact ⟨rfl, ButB.refl _ _, HM.out⟩
set_option maxHeartbeats 4000000 in
theorem dtake69_any (mb : Nat) (m : Mom) (s : ByteArray) (w : World) (_hE : DEnv w) (hm : MomAt mb m w) :
    Calls Tryz.prog 152 #[.pointer (some ⟨mb, 0, none⟩), .int .i32 69, .string s] w fun e w' => e = .returned (.tuple #[.string ⟨(dtake m 69 s.data.toList).2.1.toArray⟩, .bool (dtake m 69 s.data.toList).2.2]) ∧ ButB mb w w' ∧ MomAt mb (dtake m 69 s.data.toList).1 w' := by
  have hd : dtake m 69 s.data.toList = (if Lib.hasPrefix s.data.toList [32] = true then ({ m with day := (dnumL (s.data.toList.drop 1) 1).1 }, (dnumL (s.data.toList.drop 1) 1).2) else ({ m with day := (dnumL s.data.toList 2).1 }, (dnumL s.data.toList 2).2)) := by unfold dtake; simp
  rw [hd]
  have k := Tryz.strings_CutPrefix s ⟨#[32]⟩ w
  have e1 : (⟨#[32]⟩ : ByteArray).data.toList = [32] := rfl
  rw [e1] at k
  unfold Lib.trimPrefix at k
  rw [show ([32] : List UInt8).length = 1 from rfl] at k
  have n1 := dnumber_any ⟨(s.data.toList.drop 1).toArray⟩ 1 (by decide) w
  rw [show ((1 : Nat) : Int) = 1 from rfl] at n1
  have n2 := dnumber_any s 2 (by decide) w
  rw [show ((2 : Nat) : Int) = 2 from rfl] at n2
  have e2 : (⟨(s.data.toList.drop 1).toArray⟩ : ByteArray).data.toList = s.data.toList.drop 1 := by simp
  rw [e2] at n1
  generalize s.data.toList.drop 1 = dr at *
  generalize dnumL dr 1 = r1 at *
  generalize dnumL s.data.toList 2 = r2 at *
  obtain ⟨v1, rest1, is1⟩ := r1
  obtain ⟨v2, rest2, is2⟩ := r2
  simp only at n1 n2 ⊢
  obtain ⟨c0, c1, c2, c3, c4, c5, c6, c7, hf⟩ := hm.cells
  have f1 := hf 1
  have N1 := Lib.hid n1; have N2 := Lib.hid n2; have HM := Lib.hid hm
  clear n1 n2 hm hd hf e1 e2
  cases hp : Lib.hasPrefix s.data.toList [32]
  · rw [hp] at k
    simp only [Bool.false_eq_true, if_false] at k ⊢
    have K := Lib.hid k
    clear k hp
    go_enter Tryz.func152, Tryz.ntmps152
    go_wp2_with fail
    (with_reducible refine K.out.mono ?_)
    rintro e w1 ⟨rfl, rfl⟩
    go_wp2_with fail
    (with_reducible refine N2.out.mono ?_)
    rintro e w2 ⟨rfl, q, rfl⟩
    go_wp2
    go_ret2
    exact ⟨rfl, ButB.set mb 1 q _ _, HM.out.set1 (q := q) v2⟩
  · rw [hp] at k
    simp only [if_true] at k ⊢
    have K := Lib.hid k
    clear k hp
    go_enter Tryz.func152, Tryz.ntmps152
    go_wp2_with fail
    (with_reducible refine K.out.mono ?_)
    rintro e w1 ⟨rfl, rfl⟩
    go_wp2_with fail
    (with_reducible refine N1.out.mono ?_)
    rintro e w2 ⟨rfl, q, rfl⟩
    go_wp2
    go_ret2
    exact ⟨rfl, ButB.set mb 1 q _ _, HM.out.set1 (q := q) v1⟩
theorem dindex_range : ∀ (l sub : List UInt8), -1 ≤ Lib.index l sub ∧ Lib.index l sub ≤ l.length
  | [], sub => by unfold Lib.index; split <;> simp
  | b :: l, sub => by
    have ih := dindex_range l sub
    rw [Lib.index, List.length_cons]
    split
    · omega
    · split <;> omega
set_option maxHeartbeats 4000000 in
theorem dtake109_any (mb : Nat) (m : Mom) (s : ByteArray) (w : World) (hE : DEnv w) (hm : MomAt mb m w) :
    Calls Tryz.prog 152 #[.pointer (some ⟨mb, 0, none⟩), .int .i32 109, .string s] w fun e w' => e = .returned (.tuple #[.string ⟨(dtake m 109 s.data.toList).2.1.toArray⟩, .bool (dtake m 109 s.data.toList).2.2]) ∧ ButB mb w w' ∧ MomAt mb (dtake m 109 s.data.toList).1 w' := by
  have hxr := dindex_range dmonths (s.data.toList.take 3)
  have hml : dmonths.length = 36 := rfl
  rw [hml] at hxr
  have hd : dtake m 109 s.data.toList = (if s.data.toList.length < 3 ∨ Lib.index dmonths (s.data.toList.take 3) < 0 ∨ Lib.index dmonths (s.data.toList.take 3) % 3 ≠ 0 then (m, [], false) else ({ m with month := Lib.index dmonths (s.data.toList.take 3) / 3 + 1 }, s.data.toList.drop 3, true)) := by unfold dtake; simp
  rw [hd]
  obtain ⟨c0, c1, c2, c3, c4, c5, c6, c7, hf⟩ := hm.cells
  have f2 := hf 2
  obtain ⟨_, mx, hmx⟩ := hE.1
  have hex : (s.extract 0 3).data.toList = s.data.toList.take 3 := by rw [Lib.extract_data]; simp
  have k := Tryz.strings_Index ⟨#[74, 97, 110, 70, 101, 98, 77, 97, 114, 65, 112, 114, 77, 97, 121, 74, 117, 110, 74, 117, 108, 65, 117, 103, 83, 101, 112, 79, 99, 116, 78, 111, 118, 68, 101, 99]⟩ (s.extract 0 3) mx w (by decide) hmx
  rw [hex, show (⟨#[74, 97, 110, 70, 101, 98, 77, 97, 114, 65, 112, 114, 77, 97, 121, 74, 117, 110, 74, 117, 108, 65, 117, 103, 83, 101, 112, 79, 99, 116, 78, 111, 118, 68, 101, 99]⟩ : ByteArray).data.toList = dmonths from rfl] at k
  rw [← Lib.size_eq]
  have hdr : s.extract 3 s.size = ⟨(s.data.toList.drop 3).toArray⟩ := by
    apply str_eq
    rw [Lib.extract_data]
    have : (s.data.toList.drop 3).length ≤ s.size - 3 := by rw [List.length_drop, ← Lib.size_eq]; omega
    rw [List.take_of_length_le this]
  have HDR := Lib.hid hdr; have HM := Lib.hid hm
  clear hd hex hmx hf hm hE hdr hml
  generalize Lib.index dmonths (s.data.toList.take 3) = at_ at *
  have K := Lib.hid k
  clear k
  by_cases h3 : s.size < 3
  · have t1 : decide ((s.size : Int) ≥ 3) = false := by simp; omega
    rw [if_pos (Or.inl h3)]
    go_enter Tryz.func152, Tryz.ntmps152
    go_wp2
    go_ret2
    exact ⟨rfl, ButB.refl _ _, HM.out⟩
  · have t1 : decide ((s.size : Int) ≥ 3) = true := by simp; omega
    have h3' : 3 ≤ s.size := by omega
    by_cases hneg : at_ < 0
    · rw [if_pos (Or.inr (Or.inl hneg))]
      have t2 : decide (at_ < 0) = true := by simpa using hneg
      go_enter Tryz.func152, Tryz.ntmps152
      go_wp2_with fail
      (with_reducible refine K.out.mono ?_)
      rintro e w1 ⟨rfl, rfl⟩
      go_wp2
      go_ret2
      exact ⟨rfl, ButB.refl _ _, HM.out⟩
    · have t2 : decide (at_ < 0) = false := by simpa using hneg
      have em : at_.tmod 3 = at_ % 3 := Int.tmod_eq_emod_of_nonneg (by omega)
      have ed : at_.tdiv 3 = at_ / 3 := Int.tdiv_eq_ediv_of_nonneg (by omega)
      by_cases hm3 : at_ % 3 = 0
      · rw [if_neg (by omega)]
        obtain ⟨q3, hq3⟩ : ∃ q3, at_ / 3 = q3 := ⟨_, rfl⟩
        have hq4 : 0 ≤ q3 ∧ q3 ≤ 12 := by omega
        rw [hq3] at ed ⊢
        have w1' : IntKind.i64.wrap q3 = q3 := by rw [IntKind.wrap_i64]; omega
        have w2' : IntKind.i64.wrap (q3 + 1) = q3 + 1 := by rw [IntKind.wrap_i64]; omega
        clear hq3
        go_enter Tryz.func152, Tryz.ntmps152
        go_wp2_with fail
        (with_reducible refine K.out.mono ?_)
        rintro e w1 ⟨rfl, rfl⟩
        go_wp2
        go_region
        go_wp2
        go_ret2
        exact ⟨by rw [← HDR.out]; rfl, ButB.set mb 2 1 _ _, HM.out.set2 (q := 1) _⟩
      · rw [if_pos (Or.inr (Or.inr hm3))]
        go_enter Tryz.func152, Tryz.ntmps152
        go_wp2_with fail
        (with_reducible refine K.out.mono ?_)
        rintro e w1 ⟨rfl, rfl⟩
        go_wp2
        go_ret2
        exact ⟨rfl, ButB.refl _ _, HM.out⟩
end Go.Proofs.YtgmmjhcklhajiaaGreatDoor
/- Dates: the walk of tick (printed by wip/tools/date5.py). -/
namespace Go.Proofs.YtgmmjhcklhajiaaGreatDoor
open Go.RowKit
set_option maxRecDepth 100000

/-- What a date's pieces can be. -/
structure MomOk (m : Mom) : Prop where
  wd : 0 ≤ m.wd ∧ m.wd ≤ 6
  day : 0 ≤ m.day ∧ m.day ≤ 9999
  month : 0 ≤ m.month ∧ m.month ≤ 13
  year : 0 ≤ m.year ∧ m.year ≤ 9999
  hour : 0 ≤ m.hour ∧ m.hour ≤ 9999
  minute : 0 ≤ m.minute ∧ m.minute ≤ 9999
  second : 0 ≤ m.second ∧ m.second ≤ 9999
  two : m.two = true → m.year ≤ 99
theorem dlong_le (y m : Int) : 28 ≤ dlong y m ∧ dlong y m ≤ 31 := by
  unfold dlong
  split
  · split <;> omega
  · split <;> omega
theorem dmons_le (y : Int) : ∀ k, 0 ≤ dmons y k ∧ dmons y k ≤ 31 * k
  | 0 => by simp [dmons]
  | k + 1 => by
    have ih := dmons_le y k
    have := dlong_le y (k + 1)
    rw [dmons]; omega
theorem dyear_ge : ∀ (f : Nat) (d y : Int), y ≤ dyear f d y ∧ dyear f d y ≤ y + f
  | 0, d, y => by rw [dyear]; omega
  | f + 1, d, y => by
    rw [dyear]
    split
    · have := dyear_ge f d (y + 1); omega
    · omega
theorem MomAt.drewN {mb : Nat} {m : Mom} {w : World} (h : MomAt mb m w) (q : Nat) : MomAt mb m (w.drewN q) := h
theorem ButB.drewN {mb : Nat} {w w' : World} (h : ButB mb w w') (q : Nat) : ButB mb w (w'.drewN q) := h
def TickPost (mb : Nat) (w : World) (r : Int × Bool) (e : Ending) (w' : World) : Prop := e = .returned (.tuple #[.int .i64 r.1, .bool r.2]) ∧ ButB mb w w'
end Go.Proofs.YtgmmjhcklhajiaaGreatDoor
