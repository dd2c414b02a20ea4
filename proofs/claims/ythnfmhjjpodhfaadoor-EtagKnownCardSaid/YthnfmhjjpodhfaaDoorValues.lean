/- The walk of fields.Values. -/
import Derived.Test.YthnfmhjjpodhfaaDoorFieldSpec
import Derived.Test.YthnfmhjjpodhfaaDoorOwn
import Derived.Test.YthnfmhjjpodhfaaDoorSame
namespace Go.Proofs.YthnfmhjjpodhfaaDoor
open Go.RowKit

set_option maxRecDepth 100000 in
set_option maxHeartbeats 2000000 in
theorem values_any (A : Option Addr) (n c : Nat) (xs : List Fld) (name : ByteArray) (w : World) (hr : Rd A n 2 (fldsV xs) w) (hn : n ≤ 1000000) (hs : ∀ f ∈ xs, f.1.length ≤ 1000000) (hname : name.size ≤ 1000000) :
    Calls Tryd.prog 45 #[.slice A n c, .string name] w (TextsPost w (valuesL xs name.data.toList)) := by
  have hB := Below.refl w.heap.size w
  obtain rfl := hr.fld
  have HR := Lib.hid hr; have HS := Lib.hid hs; clear hr hs
  go_enter Tryd.func45, Tryd.ntmps45
  go_wp2
  go_loopw [9, 4] (fun i out wr => ∃ k : Nat, k ≤ xs.length ∧ i = .int .i64 k ∧ Hid (OwnS w.heap.size out (valuesL (xs.take k) name.data.toList) wr) ∧ Below w.heap.size w wr) (fun i _ _ => xs.length - (intOf i).toNat)
  case atStart => exact ⟨0, Nat.zero_le _, rfl, Lib.hid (OwnS.nil _ _), hB⟩
  case round =>
    clear hB
    obtain ⟨k, hk, rfl, HO, hbw⟩ := hrel
    by_cases hlt : k < xs.length
    · obtain ⟨b, o, rfl, hl, c1, c2⟩ := (HR.out.below hbw).fld_at (k := k) (by omega)
      have hf1 := HS.out xs[k] (List.getElem_mem _)
      have hsn := valuesL_snoc (xs.take k) xs[k] name.data.toList
      rw [← take_snocL xs k (by omega)] at hsn
      have k1 := fun w => tsame_any ⟨(xs[k]).1.toArray⟩ name w (by rw [Lib.size_eq]; exact hf1) hname
      have hvl := valuesL_le (xs.take k) name.data.toList
      rw [List.length_take] at hvl
      generalize xs[k] = f at *
      obtain ⟨f1, f2⟩ := f
      simp only at c1 c2 k1 hsn
      have Hsn := Lib.hid hsn; have K1 := Lib.hid k1; clear hsn k1 hf1
      cases hq : (lowerL f1 == lowerL name.data.toList)
      · have hnx := Hsn.out
        rw [hq, if_neg (by decide)] at hnx
        have HN : Hid (OwnS w.heap.size u4 (valuesL (xs.take (k + 1)) name.data.toList) wr) := by rw [hnx]; exact HO
        have Hq := Lib.hid hq; clear hnx hq Hsn
        go_wp2_with (go_at_call 51; refine (K1.out _).mono ?_; rintro e w1 ⟨rfl, hb1⟩; rw [Hq.out])
        have hb2 : Below w.heap.size w w1 := (hbw.alloc hbw.size _).trans (hb1.mono (by have := hbw.size; simp; omega))
        go_roundw
        case rel => exact ⟨k + 1, by omega, by go_num, Lib.hid ((HN.out.below ((Below.refl _ wr).alloc (Nat.le_refl _) _)).below hb1), hb2⟩
        case measure => simp [intOf]; omega
      · have hnx := Hsn.out
        rw [hq, if_pos rfl] at hnx
        have Hnx := Lib.hid hnx
        have Hq := Lib.hid hq; clear hnx hq Hsn
        go_wp2_with fail
        refine (K1.out _).mono ?_
        rintro e w1 ⟨rfl, hb1⟩
        rw [Hq.out]
        have d2 := hb1.cell (p := ⟨wr.heap.size, 1, none⟩) (by simp)
        simp [go_sem] at d2
        have hb2 : Below w.heap.size w w1 := (hbw.alloc hbw.size _).trans (hb1.mono (by have := hbw.size; simp; omega))
        have hO1 := (HO.out.below ((Below.refl _ wr).alloc (Nat.le_refl _) _)).below hb1
        have HO1 := Lib.hid hO1; clear hO1 HO
        go_wp2_with (at_builtin; refine app_str w.heap.size f2 HO1.out hb2.size (by omega) rfl _ _ rfl rfl rfl ?_)
        intro v' w2 hO2 hb3 _
        have hb4 := hb2.trans hb3
        have HO2 : Hid (OwnS w.heap.size v' (valuesL (xs.take (k + 1)) name.data.toList) w2) := by rw [Hnx.out]; exact Lib.hid hO2
        clear hO2 hb3 hb2 hb1 d2
        go_wp2
        go_roundw
        case rel => exact ⟨k + 1, by omega, by go_num, HO2, hb4⟩
        case measure => simp [intOf]; omega
    · have hke : k = xs.length := by omega
      subst hke
      have ho := HO.out
      rw [List.take_length] at ho
      obtain ⟨a, cap, rfl⟩ := ho.shape
      have HO1 := Lib.hid ho; clear ho HO
      go_wp2
      go_ret
      exact ⟨a, cap, rfl, HO1.out, hbw⟩
end Go.Proofs.YthnfmhjjpodhfaaDoor
