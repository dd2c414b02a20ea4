/- Which lists of fields may be: the plain law, and both walks. -/
import Derived.Test.YthppcaoldobocaaDoorROne
import Derived.Test.YthppcaoldobocaaDoorGet
namespace Go.Proofs.YthppcaoldobocaaDoor
open Go.RowKit
set_option maxRecDepth 100000

def chkR : List Fld → Int
  | [] => 0
  | f :: r => bif !mayL f then 4 else bif longL f then 3 else chkR r
def checkL (xs : List Fld) : Int := bif decide (64 < xs.length) then 3 else chkR xs
theorem chkR_drop (xs : List Fld) (k : Nat) (h : k < xs.length) : chkR (xs.drop k) = bif !mayL xs[k] then 4 else bif longL xs[k] then 3 else chkR (xs.drop (k + 1)) := by
  rw [List.drop_eq_getElem_cons h]; rfl
theorem mk_list (l : List UInt8) : (⟨l.toArray⟩ : ByteArray).data.toList = l := by simp
theorem mk_size (l : List UInt8) : (⟨l.toArray⟩ : ByteArray).size = l.length := by rw [Lib.size_eq]

set_option maxHeartbeats 4000000 in
theorem check4_any (A : Option Addr) (n c : Nat) (xs : List Fld) (w : World) (hr : Rd A n 2 (fldsV xs) w) (hn : n ≤ 1000000) (hs : sumF xs ≤ 1000000) :
    Calls Tryd.prog 16 #[.slice A n c] w fun e w' => e = .returned (.int .i64 (checkL xs)) ∧ Below w.heap.size w w' := by
  obtain rfl := hr.fld
  have hB := Below.refl w.heap.size w
  by_cases h64 : xs.length ≤ 64
  · have hT : chkR (xs.drop 0) = checkL xs := by unfold checkL; rw [show decide (64 < xs.length) = false from by simp; omega]; rfl
    have hS := fun f (hf : f ∈ xs) => Nat.le_trans (sumF_mem hf) hs
    have hD := chkR_drop xs
    generalize checkL xs = tot at *
    have HR := Lib.hid hr; have HS := Lib.hid hS; have HD := Lib.hid hD; have HT0 := Lib.hid hT; clear hr hs hS hT hD
    go_enter Tryd.func16, Tryd.ntmps16
    go_wp2
    go_loopw [10] (fun i wr => ∃ k : Nat, k ≤ xs.length ∧ i = .int .i64 k ∧ Below w.heap.size w wr ∧ Hid (chkR (xs.drop k) = tot)) (fun i _ => xs.length - (intOf i).toNat)
    case atStart => exact ⟨0, Nat.zero_le _, rfl, hB, HT0⟩
    case round =>
      clear hB HT0
      obtain ⟨k, hk, rfl, hbw, HT⟩ := hrel
      by_cases hlt : k < xs.length
      · obtain ⟨b, o, rfl, hl, c1, c2⟩ := (HR.out.below hbw).fld_at (k := k) hlt
        have hf := HS.out xs[k] (List.getElem_mem _)
        have ht := HD.out k hlt
        rw [HT.out] at ht
        generalize xs[k] = f at *
        obtain ⟨f1, f2⟩ := f
        simp only at c1 c2 hf
        have k1 := fun w => fmay_any ⟨f1.toArray⟩ ⟨f2.toArray⟩ w (by rw [mk_size]; omega) (by rw [mk_size]; omega)
        have k2 := fun w => line_any ⟨f1.toArray⟩ ⟨f2.toArray⟩ w (by rw [mk_size]; omega) (by rw [mk_size]; omega)
        simp only at k1 k2
        have hlg : longL (f1, f2) = decide (2048 < f1.length + 2 + f2.length) := rfl
        have hln : (⟨(f1 ++ ([58, 32] ++ f2)).toArray⟩ : ByteArray).size = f1.length + 2 + f2.length := by
          rw [mk_size]; simp; omega
        generalize (⟨(f1 ++ ([58, 32] ++ f2)).toArray⟩ : ByteArray) = ln at *
        have K1 := Lib.hid k1; have K2 := Lib.hid k2; clear k1 k2
        have hAl := hbw.alloc hbw.size (.cells #[.string ⟨f1.toArray⟩, .string ⟨f2.toArray⟩] 37)
        cases hm : mayL (f1, f2)
        · rw [hm] at ht K1
          have ht2 : tot = 4 := ht
          subst ht2
          clear HT HD ht hlg hm
          go_wp2_with fail
          refine (K1.out _).mono ?_
          rintro e w1 ⟨rfl, hb1⟩
          go_wp2
          go_ret
          exact ⟨rfl, hAl.trans (hb1.mono hAl.size)⟩
        · rw [hm] at ht K1
          have ht2 : tot = bif longL (f1, f2) then 3 else chkR (xs.drop (k + 1)) := ht
          have HT2 := Lib.hid ht2; have HL := Lib.hid hlg
          clear HT HD ht ht2 hm hlg
          go_wp2_with fail
          refine (K1.out _).mono ?_
          rintro e w1 ⟨rfl, hb1⟩
          have hB1 := hAl.trans (hb1.mono hAl.size)
          have d0 : w1.cell? ⟨wr.heap.size, 0, none⟩ = some (.string ⟨f1.toArray⟩) := (hb1.cell (p := ⟨wr.heap.size, 0, none⟩) (by simp)).trans (World.cell?_alloc_mark wr _ _ _ 0)
          have d1 : w1.cell? ⟨wr.heap.size, 1, none⟩ = some (.string ⟨f2.toArray⟩) := (hb1.cell (p := ⟨wr.heap.size, 1, none⟩) (by simp)).trans (World.cell?_alloc_mark wr _ _ _ 1)
          clear hb1 hAl
          go_wp2_with fail
          refine (K2.out _).mono ?_
          rintro e w2 ⟨rfl, hb2⟩
          have hB2 := bt hB1 hb2
          by_cases hll : ln.size ≤ 2048
          · have hz : longL (f1, f2) = false := by rw [HL.out]; simp; omega
            have ht3 := HT2.out
            rw [hz] at ht3
            have HT3 : Hid (chkR (xs.drop (k + 1)) = tot) := Lib.hid ht3.symm
            clear ht3 hz HT2 HL
            go_wp2_with fail
            go_roundw
            case rel => exact ⟨k + 1, by omega, by go_num, hB2, HT3⟩
            case measure => simp [intOf]; omega
          · have hz : longL (f1, f2) = true := by rw [HL.out]; simp; omega
            have ht3 := HT2.out
            rw [hz] at ht3
            have ht4 : tot = 3 := ht3
            subst ht4
            clear ht3 hz HT2 HL
            go_wp2_with fail
            go_ret
            exact ⟨rfl, hB2⟩
      · have hke : k = xs.length := by omega
        subst hke
        have ht := HT.out
        rw [List.drop_length] at ht
        have ht2 : tot = 0 := ht.symm
        subst ht2
        clear HT HD ht
        go_wp2
        go_ret
        exact ⟨rfl, hbw⟩
  · have hT : checkL xs = 3 := by unfold checkL; rw [show decide (64 < xs.length) = true from by simp; omega]; rfl
    rw [hT]
    clear hT
    go_enter Tryd.func16, Tryd.ntmps16
    go_wp2
    go_ret
    exact ⟨rfl, hB⟩

set_option maxHeartbeats 4000000 in
theorem rcheck4_any (A : Option Addr) (n c : Nat) (xs : List Fld) (w : World) (hr : Rd A n 2 (fldsV xs) w) (hn : n ≤ 1000000) (hs : sumF xs ≤ 1000000) :
    Calls Tryd.prog 17 #[.slice A n c] w fun e w' => e = .returned (.int .i64 (checkL xs)) ∧ Below w.heap.size w w' := by
  obtain rfl := hr.fld
  have hB := Below.refl w.heap.size w
  by_cases h64 : xs.length ≤ 64
  · have hT : chkR (xs.drop 0) = checkL xs := by unfold checkL; rw [show decide (64 < xs.length) = false from by simp; omega]; rfl
    have hS := fun f (hf : f ∈ xs) => Nat.le_trans (sumF_mem hf) hs
    have hD := chkR_drop xs
    generalize checkL xs = tot at *
    have HR := Lib.hid hr; have HS := Lib.hid hS; have HD := Lib.hid hD; have HT0 := Lib.hid hT; clear hr hs hS hT hD
    go_enter Tryd.func17, Tryd.ntmps17
    go_wp2
    go_loopw [3] (fun i wr => ∃ k : Nat, k ≤ xs.length ∧ i = .int .i64 k ∧ Below w.heap.size w wr ∧ Hid (chkR (xs.drop k) = tot)) (fun i _ => xs.length - (intOf i).toNat)
    case atStart => exact ⟨0, Nat.zero_le _, rfl, hB, HT0⟩
    case round =>
      clear hB HT0
      obtain ⟨k, hk, rfl, hbw, HT⟩ := hrel
      by_cases hlt : k < xs.length
      · obtain ⟨b, o, rfl, hl, c1, c2⟩ := (HR.out.below hbw).fld_at (k := k) hlt
        have hf := HS.out xs[k] (List.getElem_mem _)
        have ht := HD.out k hlt
        rw [HT.out] at ht
        generalize xs[k] = f at *
        obtain ⟨f1, f2⟩ := f
        simp only at c1 c2 hf
        have k1 := fun w => rfmay_any ⟨f1.toArray⟩ ⟨f2.toArray⟩ w (by rw [mk_size]; omega) (by rw [mk_size]; omega)
        have k2 := fun w => rlong_any ⟨f1.toArray⟩ ⟨f2.toArray⟩ w (by rw [mk_size]; omega) (by rw [mk_size]; omega)
        simp only at k1 k2
        generalize mayL (f1, f2) = my at *
        generalize longL (f1, f2) = lg at *
        have K1 := Lib.hid k1; have K2 := Lib.hid k2; clear k1 k2 HD HT
        cases my
        · have ht2 : tot = 4 := ht
          subst ht2
          clear ht
          go_wp2_with fail
          refine (K1.out _).mono ?_
          rintro e w1 ⟨rfl, hb1⟩
          go_wp2
          go_ret
          exact ⟨rfl, bt hbw hb1⟩
        · have ht2 : tot = bif lg then 3 else chkR (xs.drop (k + 1)) := ht
          have HT2 := Lib.hid ht2
          clear ht ht2
          go_wp2_with fail
          refine (K1.out _).mono ?_
          rintro e w1 ⟨rfl, hb1⟩
          have hB1 := bt hbw hb1
          have d1 := (hb1.cell (p := ⟨b, o + k * 2, none⟩) hl).trans c1
          have d2 := (hb1.cell (p := ⟨b, o + k * 2 + 1, none⟩) hl).trans c2
          clear c1 c2
          go_wp2_with fail
          refine (K2.out _).mono ?_
          rintro e w2 ⟨rfl, hb2⟩
          have hB2 := bt hB1 hb2
          cases lg
          · have HT3 : Hid (chkR (xs.drop (k + 1)) = tot) := Lib.hid HT2.out.symm
            clear HT2
            go_wp2_with fail
            go_roundw
            case rel => exact ⟨k + 1, by omega, by go_num, hB2, HT3⟩
            case measure => simp [intOf]; omega
          · have ht4 : tot = 3 := HT2.out
            subst ht4
            clear HT2
            go_wp2_with fail
            go_ret
            exact ⟨rfl, hB2⟩
      · have hke : k = xs.length := by omega
        subst hke
        have ht := HT.out
        rw [List.drop_length] at ht
        have ht2 : tot = 0 := ht.symm
        subst ht2
        clear HT HD ht
        go_wp2
        go_ret
        exact ⟨rfl, hbw⟩
  · have hT : checkL xs = 3 := by unfold checkL; rw [show decide (64 < xs.length) = true from by simp; omega]; rfl
    rw [hT]
    clear hT
    go_enter Tryd.func17, Tryd.ntmps17
    go_wp2
    go_ret
    exact ⟨rfl, hB⟩
end Go.Proofs.YthppcaoldobocaaDoor
