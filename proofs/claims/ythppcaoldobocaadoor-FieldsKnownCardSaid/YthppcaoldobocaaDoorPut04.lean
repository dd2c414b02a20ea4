/- The text of a list of fields: the plain law, and both walks. -/
import Derived.Test.YthppcaoldobocaaDoorCheck04
import Derived.Test.YthppcaoldobocaaDoorBytes
import Derived.Test.YthppcaoldobocaaDoorShelf
namespace Go.Proofs.YthppcaoldobocaaDoor
open Go.RowKit
set_option maxRecDepth 100000

def fldB (f : Fld) : List UInt8 := (f.1 ++ ([58, 32] ++ f.2)) ++ [13, 10]
def putP (xs : List Fld) : List UInt8 := xs.flatMap fldB
def putL (xs : List Fld) : List UInt8 := bif checkL xs != 0 then [] else putP xs
theorem putP_snoc (xs : List Fld) (k : Nat) (h : k < xs.length) : putP (xs.take (k + 1)) = putP (xs.take k) ++ fldB xs[k] := by
  unfold putP; rw [List.take_succ_eq_append_getElem h, List.flatMap_append]; simp
theorem putP_len (xs : List Fld) : (putP xs).length = sumF xs + 4 * xs.length := by
  unfold putP sumF
  induction xs with
  | nil => rfl
  | cons x r ih => rw [List.flatMap_cons, List.length_append, ih, List.map_cons, List.sum_cons, List.length_cons]; unfold fldB; simp; omega
theorem fresh_B4 (w : World) : IsB w.heap.size w.heap.size [] (w.alloc (.cells #[.pointer none, .slice none 0 0] 64)) :=
  Lib.IsBuilderF.of (Lib.fresh_isBuilder 64 5 w)

set_option maxHeartbeats 8000000 in
theorem put4_any (A : Option Addr) (n c : Nat) (xs : List Fld) (w : World) (hr : Rd A n 2 (fldsV xs) w) (hn : n ≤ 1000000) (hs : sumF xs ≤ 1000000) :
    Calls Tryd.prog 18 #[.slice A n c] w fun e w' => e = .returned (.string ⟨(putL xs).toArray⟩) ∧ Below w.heap.size w w' := by
  have k1 := check4_any A n c xs w hr hn hs
  have hxn := hr.fld
  by_cases hc : checkL xs = 0
  · have hp : putL xs = putP xs := by unfold putL; rw [hc]; rfl
    rw [hp]
    rw [hc] at k1
    have hsn := putP_snoc xs
    have hlen : ∀ k, (putP (xs.take k)).length ≤ 10000000 := by
      intro k
      have h1 := putP_len (xs.take k); have h2 := sumF_take xs k
      have h3 : (xs.take k).length ≤ xs.length := by rw [List.length_take]; omega
      omega
    have hS := fun f (hf : f ∈ xs) => Nat.le_trans (sumF_mem hf) hs
    obtain rfl := hxn
    have hT : putP (xs.take xs.length) = putP xs := by rw [List.take_length]
    have hT0 : putP (xs.take 0) = [] := rfl
    have HT := Lib.hid hT; have HT0 := Lib.hid hT0; have K1 := Lib.hid k1; have HR := Lib.hid hr; have HS := Lib.hid hS; have HSN := Lib.hid hsn; have HL := Lib.hid hlen
    clear k1 hr hs hc hp hsn hlen hS hT hT0
    generalize putP xs = tot at *
    go_enter Tryd.func18, Tryd.ntmps18
    go_wp2_with fail
    refine K1.out.mono ?_
    rintro e w1 ⟨rfl, hb1⟩
    have hR1 := HR.out.below hb1
    have HR1 := Lib.hid hR1; clear hR1 HR K1
    have hI := fresh_B4 w1
    have hal := (Below.refl w1.heap.size w1).alloc (Nat.le_refl _) (.cells #[.pointer none, .slice none 0 0] 64)
    have HI := Lib.hid hI; clear hI
    go_wp2_with fail
    go_loopw [11] (fun i wr => ∃ k : Nat, k ≤ xs.length ∧ i = .int .i64 k ∧ Below w1.heap.size w1 wr ∧ Hid (IsB w1.heap.size w1.heap.size (putP (xs.take k)) wr)) (fun i _ => xs.length - (intOf i).toNat)
    case atStart => exact ⟨0, Nat.zero_le _, rfl, hal, by rw [HT0.out]; exact HI⟩
    case round =>
      clear hal HI HT0
      obtain ⟨k, hk, rfl, hbw, HB⟩ := hrel
      by_cases hlt : k < xs.length
      · obtain ⟨b, o, rfl, hl, c1, c2⟩ := (HR1.out.below hbw).fld_at (k := k) hlt
        have hf := HS.out xs[k] (List.getElem_mem _)
        have hsn := HSN.out k hlt
        generalize xs[k] = f at *
        obtain ⟨f1, f2⟩ := f
        simp only at c1 c2 hf
        have k2 := fun w => line_any ⟨f1.toArray⟩ ⟨f2.toArray⟩ w (by rw [mk_size]; omega) (by rw [mk_size]; omega)
        simp only at k2
        have hll : (f1 ++ ([58, 32] ++ f2)).length ≤ 1000002 := by simp; omega
        have hsn2 : putP (xs.take (k + 1)) = (putP (xs.take k) ++ (f1 ++ ([58, 32] ++ f2))) ++ [13, 10] := by rw [hsn]; unfold fldB; simp
        generalize f1 ++ ([58, 32] ++ f2) = ln at *
        have hle := HL.out k
        have HSN2 := Lib.hid hsn2; have K2 := Lib.hid k2
        clear hsn hsn2 k2
        have hAl := hbw.alloc hbw.size (.cells #[.string ⟨f1.toArray⟩, .string ⟨f2.toArray⟩] 37)
        go_wp2_with fail
        refine (K2.out _).mono ?_
        rintro e w2 ⟨rfl, hb2⟩
        have hB2 := hAl.trans (hb2.mono hAl.size)
        have hI2 := (HB.out.below ((Below.refl wr.heap.size wr).alloc (Nat.le_refl _) (.cells #[.string ⟨f1.toArray⟩, .string ⟨f2.toArray⟩] 37))).below hb2
        have k3 := writeString_any w1.heap.size w1.heap.size (putP (xs.take k)) ⟨ln.toArray⟩ w2 hI2 (by rw [mk_size]; omega) hB2.size
        have K3 := Lib.hid k3; clear k3 hI2 hb2 hAl K2
        go_wp2_with fail
        refine K3.out.mono ?_
        rintro e w3 ⟨rfl, hI3, hb3, -⟩
        have hB3 := hB2.trans hb3
        have k4 := writeString_any w1.heap.size w1.heap.size _ ⟨#[13, 10]⟩ w3 hI3 (by rw [List.length_append, show (⟨#[13, 10]⟩ : ByteArray).size = 2 from rfl]; omega) hB3.size
        have K4 := Lib.hid k4; clear k4 hI3 hb3 K3
        go_wp2_with fail
        refine K4.out.mono ?_
        rintro e w4 ⟨rfl, hI4, hb4, -⟩
        have hB4 := hB3.trans hb4
        have HI4 : Hid (IsB w1.heap.size w1.heap.size (putP (xs.take (k + 1))) w4) := by rw [HSN2.out]; exact Lib.hid hI4
        clear hI4 hb4 K4
        go_wp2_with fail
        go_roundw
        case rel => exact ⟨k + 1, by omega, by go_num, hB4, HI4⟩
        case measure => simp [intOf]; omega
      · have hke : k = xs.length := by omega
        subst hke
        have hI := HB.out
        rw [HT.out] at hI
        have k5 := Tryd.Builder_String_any_k w1.heap.size w1.heap.size tot wr hI hbw.size
        have K5 := Lib.hid k5; clear k5 hI
        go_wp2_with fail
        refine K5.out.mono ?_
        rintro e w5 ⟨rfl, -, hb5, -⟩
        go_wp2
        go_ret
        exact ⟨rfl, bt hb1 (hbw.trans hb5)⟩
  · have hp : putL xs = [] := by
      unfold putL; rw [show (checkL xs != 0) = true from by simp [hc]]; rfl
    rw [hp]
    have hne : (checkL xs != 0) = true := by simp [hc]
    clear hc hp hxn
    generalize checkL xs = ck at *
    have K1 := Lib.hid k1; clear k1 hr hn hs
    go_enter Tryd.func18, Tryd.ntmps18
    go_wp2_with fail
    refine K1.out.mono ?_
    rintro e w1 ⟨rfl, hb1⟩
    go_wp2
    go_ret
    exact ⟨rfl, hb1⟩

set_option maxHeartbeats 8000000 in
theorem rput4_any (A : Option Addr) (n c : Nat) (xs : List Fld) (w : World) (hr : Rd A n 2 (fldsV xs) w) (hn : n ≤ 1000000) (hs : sumF xs ≤ 1000000) :
    Calls Tryd.prog 19 #[.slice A n c] w fun e w' => e = .returned (.string ⟨(putL xs).toArray⟩) ∧ Below w.heap.size w w' := by
  have k1 := rcheck4_any A n c xs w hr hn hs
  have hxn := hr.fld
  by_cases hc : checkL xs = 0
  · have hp : putL xs = putP xs := by unfold putL; rw [hc]; rfl
    rw [hp]
    rw [hc] at k1
    have hsn := putP_snoc xs
    have hlen : ∀ k, (putP (xs.take k)).length ≤ 10000000 := by
      intro k
      have h1 := putP_len (xs.take k); have h2 := sumF_take xs k
      have h3 : (xs.take k).length ≤ xs.length := by rw [List.length_take]; omega
      omega
    have hS := fun f (hf : f ∈ xs) => Nat.le_trans (sumF_mem hf) hs
    obtain rfl := hxn
    have hT : putP (xs.take xs.length) = putP xs := by rw [List.take_length]
    have hT0 : putP (xs.take 0) = [] := rfl
    have HT := Lib.hid hT; have HT0 := Lib.hid hT0; have K1 := Lib.hid k1; have HR := Lib.hid hr; have HS := Lib.hid hS; have HSN := Lib.hid hsn; have HL := Lib.hid hlen
    clear k1 hr hs hc hp hsn hlen hS hT hT0
    generalize putP xs = tot at *
    go_enter Tryd.func19, Tryd.ntmps19
    go_wp2_with fail
    refine K1.out.mono ?_
    rintro e w1 ⟨rfl, hb1⟩
    have hR1 := HR.out.below hb1
    have HR1 := Lib.hid hR1; clear hR1 HR K1
    go_wp2_with fail
    go_loopw [4, 3] (fun i bs wr => ∃ k : Nat, k ≤ xs.length ∧ i = .int .i64 k ∧ Below w1.heap.size w1 wr ∧ Hid (OwnB w1.heap.size bs (putP (xs.take k)) wr)) (fun i _ _ => xs.length - (intOf i).toNat)
    case atStart => exact ⟨0, Nat.zero_le _, rfl, Below.refl _ _, by rw [HT0.out]; exact Lib.hid (OwnB.nil _ _)⟩
    case round =>
      clear HT0
      obtain ⟨k, hk, rfl, hbw, HB⟩ := hrel
      obtain ⟨ba, bc, rfl⟩ := HB.out.shape
      by_cases hlt : k < xs.length
      · obtain ⟨b, o, rfl, hl, c1', c2'⟩ := HR1.out.fld_at (k := k) hlt
        have c1 := (hbw.cell (p := ⟨b, o + k * 2, none⟩) hl).trans c1'
        have c2 := (hbw.cell (p := ⟨b, o + k * 2 + 1, none⟩) hl).trans c2'
        clear c1' c2'
        have hf := HS.out xs[k] (List.getElem_mem _)
        have hsn := HSN.out k hlt
        generalize xs[k] = f at *
        obtain ⟨f1, f2⟩ := f
        simp only at c1 c2 hf
        have hsn2 : putP (xs.take (k + 1)) = (((putP (xs.take k) ++ f1) ++ [58, 32]) ++ f2) ++ [13, 10] := by rw [hsn]; unfold fldB; simp
        have hle := HL.out k
        have HSN2 := Lib.hid hsn2
        clear hsn hsn2
        generalize putP (xs.take k) = p0 at *
        have m1 : p0.length + (⟨f1.toArray⟩ : ByteArray).size ≤ 1000000000 := by rw [mk_size]; omega
        go_wp2_with (at_builtin; refine app_bstr w1.heap.size ⟨f1.toArray⟩ HB.out hbw.size m1 rfl _ _ rfl rfl rfl ?_)
        intro v2 w2 hO2 hb2
        have hB2 := hbw.trans hb2
        have d2 := (hb2.cell (p := ⟨b, o + k * 2 + 1, none⟩) hl).trans c2
        clear c1 c2 hb2
        obtain ⟨p1, hp1⟩ : ∃ p1, p0 ++ f1 = p1 := ⟨_, rfl⟩
        have hO2' : OwnB w1.heap.size v2 (p0 ++ f1) w2 := hO2
        rw [hp1] at hO2'
        have l1 : p1.length ≤ 20000000 := by rw [← hp1, List.length_append]; omega
        have HP1 := Lib.hid hp1; clear hp1 hO2
        obtain ⟨a2, n2, rfl⟩ := hO2'.shape
        have HO2 := Lib.hid hO2'; clear hO2' HB
        have m2 : p1.length + (⟨#[58, 32]⟩ : ByteArray).size ≤ 1000000000 := by rw [show (⟨#[58, 32]⟩ : ByteArray).size = 2 from rfl]; omega
        go_wp2_with (at_builtin; refine app_bstr w1.heap.size ⟨#[58, 32]⟩ HO2.out hB2.size m2 rfl _ _ rfl rfl rfl ?_)
        intro v3 w3 hO3 hb3
        have hB3 := hB2.trans hb3
        have d3 := (hb3.cell (p := ⟨b, o + k * 2 + 1, none⟩) hl).trans d2
        clear d2 hb3
        obtain ⟨p2, hp2⟩ : ∃ p2, p1 ++ [58, 32] = p2 := ⟨_, rfl⟩
        have hO3' : OwnB w1.heap.size v3 (p1 ++ [58, 32]) w3 := hO3
        rw [hp2] at hO3'
        have l2 : p2.length ≤ 20000010 := by rw [← hp2, List.length_append]; simp; omega
        have HP2 := Lib.hid hp2; clear hp2 hO3
        obtain ⟨a3, n3, rfl⟩ := hO3'.shape
        have HO3 := Lib.hid hO3'; clear hO3' HO2
        have m3 : p2.length + (⟨f2.toArray⟩ : ByteArray).size ≤ 1000000000 := by rw [mk_size]; omega
        go_wp2_with (at_builtin; refine app_bstr w1.heap.size ⟨f2.toArray⟩ HO3.out hB3.size m3 rfl _ _ rfl rfl rfl ?_)
        intro v4 w4 hO4 hb4
        have hB4 := hB3.trans hb4
        clear d3 hb4
        obtain ⟨p3, hp3⟩ : ∃ p3, p2 ++ f2 = p3 := ⟨_, rfl⟩
        have hO4' : OwnB w1.heap.size v4 (p2 ++ f2) w4 := hO4
        rw [hp3] at hO4'
        have l3 : p3.length ≤ 30000010 := by rw [← hp3, List.length_append]; omega
        have HP3 := Lib.hid hp3; clear hp3 hO4
        obtain ⟨a4, n4, rfl⟩ := hO4'.shape
        have HO4 := Lib.hid hO4'; clear hO4' HO3
        have m4 : p3.length + ([13, 10] : List UInt8).length ≤ 1000000000 := by simp; omega
        go_wp2_with (at_builtin; refine app_bnew w1.heap.size [13, 10] #[.int .u8 13, .int .u8 10] rfl HO4.out hB4.size m4 rfl _ _ rfl rfl rfl ?_)
        intro v5 w5 hO5 hb5
        have hB5 := hB4.trans hb5
        clear hb5
        have HO5 : Hid (OwnB w1.heap.size v5 (putP (xs.take (k + 1))) w5) := by rw [HSN2.out, HP1.out, HP2.out, HP3.out]; exact Lib.hid hO5
        clear hO5 HO4 HP1 HP2 HP3 HSN2
        go_wp2
        go_roundw
        case rel => exact ⟨k + 1, by omega, by go_num, hB5, HO5⟩
        case measure => simp [intOf]; omega
      · have hke : k = xs.length := by omega
        subst hke
        have hq := HT.out
        clear HT HSN HL
        generalize putP (List.take xs.length xs) = q at *
        subst hq
        have hcv := HB.out.conv
        go_wp2
        go_ret
        exact ⟨rfl, bt hb1 hbw⟩
  · have hp : putL xs = [] := by
      unfold putL; rw [show (checkL xs != 0) = true from by simp [hc]]; rfl
    rw [hp]
    have hne : (checkL xs != 0) = true := by simp [hc]
    clear hc hp hxn
    generalize checkL xs = ck at *
    have K1 := Lib.hid k1; clear k1 hr hn hs
    go_enter Tryd.func19, Tryd.ntmps19
    go_wp2_with fail
    refine K1.out.mono ?_
    rintro e w1 ⟨rfl, hb1⟩
    go_wp2
    go_ret
    exact ⟨rfl, hb1⟩
end Go.Proofs.YthppcaoldobocaaDoor
