/- FieldsHops, FieldsClean: the walks of the laws. -/
import Derived.Test.YthppcaoldobocaaDoorClean04
import Derived.Test.YthppcaoldobocaaDoorMany
import Derived.Test.YthppcaoldobocaaDoorTexts04
import Derived.Test.YthppcaoldobocaaDoorSameF04
import Derived.Test.YthppcaoldobocaaDoorFew04
import Derived.Test.YthppcaoldobocaaDoorWorks04
import Derived.Test.YthppcaoldobocaaDoorOpenV
namespace Go.Proofs.YthppcaoldobocaaDoor
open Go.RowKit
set_option maxRecDepth 100000

set_option maxHeartbeats 8000000 in
theorem fieldsHops_any (A : Option Addr) (n c : Nat) (xs : List Fld) (w : World) (hM : MaxL w) (hr : Rd A n 2 (fldsV xs) w) (hn : n ≤ 140737488355328) (hs : ∀ f ∈ xs, f.1.length ≤ 140737488355328 ∧ f.2.length ≤ 140737488355328) :
    Calls Tryd.prog 8 #[.slice A n c] w fun e w' => e = .returned (.bool true) ∧ Below w.heap.size w w' := by
  have k1 := few04_any A n c xs w hr hn hs
  have hy := @few04_yes xs
  have hxn := hr.fld
  cases hf : few04 xs
  · rw [hf] at k1
    have K1 := Lib.hid k1; clear k1 hy hf hs hr hn hxn
    go_enter Tryd.func8, Tryd.ntmps8
    go_wp2_with fail
    refine K1.out.mono ?_
    rintro e w1 ⟨rfl, hb1⟩
    go_wp2_with fail
    refine (works4_any _ (hM.below hb1)).mono ?_
    rintro e w2 ⟨rfl, hb2⟩
    go_wp2
    go_ret
    exact ⟨rfl, bt hb1 hb2⟩
  · rw [hf] at k1
    obtain ⟨h80, hsum⟩ := hy hf
    obtain rfl := hxn
    have hhl := hopL_le xs
    have hcl := delL_le xs (hopL xs)
    have hc : delL xs (hopL xs) = cleanL xs := rfl
    rw [hc] at hcl
    have k2 := fun W h => copied04_any A xs.length c xs W h (by omega)
    have k3 := fun a c W h => hop_any a xs.length c xs W h (by omega) (by omega)
    have k4 := fun W h => rhop_any A xs.length c xs W h (by omega) (by omega)
    have k5 := fun a c W h => clean_any a xs.length c xs W h (by omega) (by omega)
    have k6 := fun W h => rclean_any A xs.length c xs W h (by omega) (by omega)
    generalize cleanL xs = cl at *
    generalize hopL xs = hp at *
    have k7 : ∀ (a b : Option Addr) (c d : Nat) (W : World), Rd a hp.length 1 (strsV hp) W → Rd b hp.length 1 (strsV hp) W → Calls Tryd.prog 23 #[.slice a hp.length c, .slice b hp.length d] W fun e w' => e = .returned (.bool true) ∧ Below W.heap.size W w' := by
      intro a b c d W h1 h2
      have := texts04_any a _ c hp b _ d hp W h1 h2 (by omega) (by omega)
      rwa [show (hp == hp) = true from by simp] at this
    have k8 : ∀ (fs : List Fld), fs.length ≤ 1000 → ∀ (a b : Option Addr) (c d : Nat) (W : World), Rd a fs.length 2 (fldsV fs) W → Rd b fs.length 2 (fldsV fs) W → Calls Tryd.prog 14 #[.slice a fs.length c, .slice b fs.length d] W fun e w' => e = .returned (.bool true) ∧ Below W.heap.size W w' := by
      intro fs hfs a b c d W h1 h2
      have := samef04_any a _ c fs b _ d fs W h1 h2 (by omega) (by omega)
      rwa [show (fs == fs) = true from by simp] at this
    have k9 := k8 cl (by omega)
    have k10 := k8 xs (by omega)
    have K1 := Lib.hid k1; have K2 := Lib.hid k2; have K3 := Lib.hid k3; have K4 := Lib.hid k4; have K5 := Lib.hid k5; have K6 := Lib.hid k6; have K7 := Lib.hid k7; have K9 := Lib.hid k9; have K10 := Lib.hid k10; have HR := Lib.hid hr
    clear k1 k2 k3 k4 k5 k6 k7 k8 k9 k10 hr hf hs hy hn hsum hhl hcl hc
    go_enter Tryd.func8, Tryd.ntmps8
    go_wp2_with fail
    refine K1.out.mono ?_
    rintro e w1 ⟨rfl, hb1⟩
    go_wp2_with fail
    refine (K2.out _ (HR.out.below hb1)).mono ?_
    rintro e w2 ⟨a2, c2, rfl, ho2, hb2⟩
    have hB2 := bt hb1 hb2
    go_wp2_with fail
    refine (K3.out _ _ _ ho2.rd.2).mono ?_
    rintro e w3 ⟨a3, c3, rfl, ho3, hb3⟩
    have hB3 := bt hB2 hb3
    go_wp2_with fail
    refine (K4.out _ (HR.out.below hB3)).mono ?_
    rintro e w4 ⟨a4, c4, rfl, ho4, hb4⟩
    have hB4 := bt hB3 hb4
    have hO4 := (ho2.below hb3).below hb4
    go_wp2_with fail
    refine (K7.out _ _ _ _ _ (ho3.below hb4).rd.2 ho4.rd.2).mono ?_
    rintro e w5 ⟨rfl, hb5⟩
    have hB5 := bt hB4 hb5
    have hO5 := hO4.below hb5
    go_wp2_with fail
    refine (K5.out _ _ _ hO5.rd.2).mono ?_
    rintro e w6 ⟨a6, c6, rfl, ho6, hb6⟩
    have hB6 := bt hB5 hb6
    go_wp2_with fail
    refine (K6.out _ (HR.out.below hB6)).mono ?_
    rintro e w7 ⟨a7, c7, rfl, ho7, hb7⟩
    have hB7 := bt hB6 hb7
    have hO7 := (hO5.below hb6).below hb7
    go_wp2_with fail
    refine (K9.out _ _ _ _ _ (ho6.below hb7).rd.2 ho7.rd.2).mono ?_
    rintro e w8 ⟨rfl, hb8⟩
    have hB8 := bt hB7 hb8
    go_wp2_with fail
    refine (K10.out _ _ _ _ _ (hO7.below hb8).rd.2 (HR.out.below hB8)).mono ?_
    rintro e w9 ⟨rfl, hb9⟩
    have hB9 := bt hB8 hb9
    go_wp2_with fail
    refine (works4_any _ (hM.below hB9)).mono ?_
    rintro e w10 ⟨rfl, hb10⟩
    go_wp2
    go_ret
    exact ⟨rfl, bt hB9 hb10⟩

set_option maxHeartbeats 8000000 in
theorem fieldsClean_any (A : Option Addr) (n c : Nat) (xs : List Fld) (w : World) (hM : MaxL w) (hr : Rd A n 2 (fldsV xs) w) (hn : n ≤ 140737488355328) (hs : ∀ f ∈ xs, f.1.length ≤ 140737488355328 ∧ f.2.length ≤ 140737488355328) :
    Calls Tryd.prog 9 #[.slice A n c] w fun e w' => e = .returned (.bool true) ∧ Below w.heap.size w w' := by
  have k1 := few04_any A n c xs w hr hn hs
  have hy := @few04_yes xs
  have hxn := hr.fld
  cases hf : few04 xs
  · rw [hf] at k1
    have K1 := Lib.hid k1; clear k1 hy hf hs hr hn hxn
    go_enter Tryd.func9, Tryd.ntmps9
    go_wp2_with fail
    refine K1.out.mono ?_
    rintro e w1 ⟨rfl, hb1⟩
    go_wp2_with fail
    refine (works4_any _ (hM.below hb1)).mono ?_
    rintro e w2 ⟨rfl, hb2⟩
    go_wp2
    go_ret
    exact ⟨rfl, bt hb1 hb2⟩
  · rw [hf] at k1
    obtain ⟨h80, hsum⟩ := hy hf
    obtain rfl := hxn
    have hhl := hopL_le xs
    have hhm := hopL_mem xs (by omega)
    have hcl := delL_le xs (hopL xs)
    have hcs := sum_delL xs (hopL xs)
    have hc : delL xs (hopL xs) = cleanL xs := rfl
    rw [hc] at hcl hcs
    have hg := fun a (h : a ∈ hopL xs) => get_clean xs h
    have hh := hop_clean xs
    have hcc := clean_clean xs
    have k2 := fun W h => clean_any A xs.length c xs W h (by omega) (by omega)
    have k3 := fun W h => hop_any A xs.length c xs W h (by omega) (by omega)
    have k4 := fun a c nm (hnm : nm ∈ hopL xs) W h => get_any a (cleanL xs).length c (cleanL xs) ⟨nm.toArray⟩ W h (by omega) (by omega) (by rw [Lib.size_eq]; exact hhm nm hnm)
    have k5 := fun a c W h => clean_any a (cleanL xs).length c (cleanL xs) W h (by omega) (by omega)
    have k6 := fun a c W h => hop_any a (cleanL xs).length c (cleanL xs) W h (by omega) (by omega)
    rw [hcc] at k5
    rw [hh] at k6
    generalize cleanL xs = cl at *
    generalize hopL xs = hp at *
    have k8 : ∀ (a b : Option Addr) (c d : Nat) (W : World), Rd a cl.length 2 (fldsV cl) W → Rd b cl.length 2 (fldsV cl) W → Calls Tryd.prog 14 #[.slice a cl.length c, .slice b cl.length d] W fun e w' => e = .returned (.bool true) ∧ Below W.heap.size W w' := by
      intro a b c d W h1 h2
      have := samef04_any a _ c cl b _ d cl W h1 h2 (by omega) (by omega)
      rwa [show (cl == cl) = true from by simp] at this
    have hclx : cl.length ≤ xs.length := hcl
    have t9 : decide ((cl.length : Int) ≤ (xs.length : Int)) = true := by simp; omega
    have hpn : hp.length ≤ 10000 := by omega
    have K1 := Lib.hid k1; have K2 := Lib.hid k2; have K3 := Lib.hid k3; have K4 := Lib.hid k4; have K5 := Lib.hid k5; have K6 := Lib.hid k6; have K8 := Lib.hid k8; have HR := Lib.hid hr; have HG := Lib.hid hg
    clear k1 k2 k3 k4 k5 k6 k8 hr hf hs hy hn hsum hhl hcl hcs hc hg hh hcc hhm
    go_enter Tryd.func9, Tryd.ntmps9
    go_wp2_with fail
    refine K1.out.mono ?_
    rintro e w1 ⟨rfl, hb1⟩
    go_wp2_with fail
    refine (K2.out _ (HR.out.below hb1)).mono ?_
    rintro e w2 ⟨a2, c2, rfl, ho2, hb2⟩
    have hB2 := bt hb1 hb2
    go_wp2_with fail
    refine (K3.out _ (HR.out.below hB2)).mono ?_
    rintro e w3 ⟨a3, c3, rfl, ho3, hb3⟩
    have hB3 := bt hB2 hb3
    have HO2 := Lib.hid (ho2.below hb3); have HO3 := Lib.hid ho3
    clear ho2 ho3 hb2 hb3
    go_wp2_with fail
    go_loopw [5] (fun i wr => ∃ k : Nat, k ≤ hp.length ∧ i = .int .i64 k ∧ Below w3.heap.size w3 wr) (fun i _ => hp.length - (intOf i).toNat)
    case atStart => exact ⟨0, Nat.zero_le _, rfl, Below.refl _ _⟩
    case round =>
      obtain ⟨k, hk, rfl, hbw⟩ := hrel
      by_cases hlt : k < hp.length
      · obtain ⟨b, o, rfl, hl, e1⟩ := ((HO3.out.below hbw).rd.2).str_at (k := k) hlt
        have hnm := List.getElem_mem hlt
        have hg := HG.out _ hnm
        have k4 := fun a c => K4.out a c hp[k] hnm
        generalize hp[k] = nm at *
        rw [hg] at k4
        have KK := Lib.hid k4
        clear k4 hg hnm
        go_wp2_with fail
        refine (KK.out _ _ _ (HO2.out.below hbw).rd.2).mono ?_
        rintro e w4 ⟨rfl, hb4⟩
        unfold getV
        simp only
        have hB4 := bt hbw hb4
        go_wp2
        go_roundw
        case rel => exact ⟨k + 1, by omega, by go_num, hB4⟩
        case measure => simp [intOf]; omega
      · have t1 : decide ((k : Int) < (hp.length : Int)) = false := by simp; omega
        have hB4 := bt hB3 hbw
        have HO4 := Lib.hid (HO2.out.below hbw)
        clear HG K4 HO3 HO2
        go_wp2_with fail
        refine (K5.out _ _ _ HO4.out.rd.2).mono ?_
        rintro e w5 ⟨a5, c5, rfl, ho5, hb5⟩
        have hB5 := bt hB4 hb5
        have HO5 := Lib.hid (HO4.out.below hb5)
        go_wp2_with fail
        refine (K8.out _ _ _ _ _ ho5.rd.2 HO5.out.rd.2).mono ?_
        rintro e w6 ⟨rfl, hb6⟩
        have hB6 := bt hB5 hb6
        have HO6 := Lib.hid (HO5.out.below hb6)
        clear ho5 HO5 HO4
        go_wp2_with fail
        refine (K6.out _ _ _ HO6.out.rd.2).mono ?_
        rintro e w7 ⟨a7, c7, rfl, ho7, hb7⟩
        have hB7 := bt hB6 hb7
        rw [show hop9.length = 9 from rfl]
        go_wp2_with fail
        refine (works4_any _ (hM.below hB7)).mono ?_
        rintro e w8 ⟨rfl, hb8⟩
        go_wp2
        go_ret
        exact ⟨rfl, bt hB7 hb8⟩
open Go.ChangeShapes Go.WideShapes in
theorem fieldsHops_law {H : Type} {enc : TypeId × Value → H} {W : World} {base : Nat}
    (v0 : Value) (hv0 : Value.okWide Tryd.prog W .any base 23 v0) {d0 : DataW H} {p0 : List MemPlace} (h0 : DataW.Trod enc Tryd.prog W 0 (fun _ => true) true 23 v0 d0 p0) (hr0 : Reach 23 d0)
    (w : World) (hw : w = W) (h : ∃ m, W.cell? ⟨0, 0, none⟩ = some (.int .i64 m)) :
    Calls Tryd.prog 8 #[v0] w fun e w' => e = .returned (.bool true) ∧ Below w.heap.size w w' := by
  subst hw
  have hb : reachBytes ≤ 140737488355328 := by decide
  obtain ⟨A, n, c, xs, rfl, hR, hn, hl⟩ := open_flds_v hv0 h0 hr0
  exact fieldsHops_any A n c xs w (MaxL.of h) hR (by omega) (fun f hf => by have := hl f hf; omega)
open Go.ChangeShapes Go.WideShapes in
theorem fieldsClean_law {H : Type} {enc : TypeId × Value → H} {W : World} {base : Nat}
    (v0 : Value) (hv0 : Value.okWide Tryd.prog W .any base 23 v0) {d0 : DataW H} {p0 : List MemPlace} (h0 : DataW.Trod enc Tryd.prog W 0 (fun _ => true) true 23 v0 d0 p0) (hr0 : Reach 23 d0)
    (w : World) (hw : w = W) (h : ∃ m, W.cell? ⟨0, 0, none⟩ = some (.int .i64 m)) :
    Calls Tryd.prog 9 #[v0] w fun e w' => e = .returned (.bool true) ∧ Below w.heap.size w w' := by
  subst hw
  have hb : reachBytes ≤ 140737488355328 := by decide
  obtain ⟨A, n, c, xs, rfl, hR, hn, hl⟩ := open_flds_v hv0 h0 hr0
  exact fieldsClean_any A n c xs w (MaxL.of h) hR (by omega) (fun f hf => by have := hl f hf; omega)
end Go.Proofs.YthppcaoldobocaaDoor
