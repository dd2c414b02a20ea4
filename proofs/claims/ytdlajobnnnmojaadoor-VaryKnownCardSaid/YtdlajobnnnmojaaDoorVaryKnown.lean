/- VaryKnown: the walk of the law (printed by wip/tools/known15.py). -/
import Derived.Test.YtdlajobnnnmojaaDoorAwake15
namespace Go.Proofs.YtdlajobnnnmojaaDoor
open Go.RowKit

def kn0L : List (List UInt8) := [[118, 97, 114, 121], [97, 44, 32, 40]]
theorem kn0 : namesO (ofL kn0L) = none := by kernel_rfl
def kn1L : List (List UInt8) := [[118, 97, 114, 121], [34]]
theorem kn1 : namesO (ofL kn1L) = none := by kernel_rfl
def kn2L : List (List UInt8) := []
theorem kn2 : namesO (ofL kn2L) = some [] := by kernel_rfl
def kn3L : List (List UInt8) := [[118, 97, 114, 121], []]
theorem kn3 : namesO (ofL kn3L) = some [] := by kernel_rfl
def kn4L : List (List UInt8) := [[118, 97, 114, 121], [97], [86, 97, 114, 121], [42]]
theorem kn4 : namesO (ofL kn4L) = none := by kernel_rfl
def kn5L : List (List UInt8) := [[120], [42], [86, 65, 82, 89], [65, 44, 97, 44, 66]]
theorem kn5 : namesO (ofL kn5L) = some [[97], [98]] := by kernel_rfl
def kn6L : List (List UInt8) := []
theorem kn6 : matchesL [(accW, [])] (ofL kn6L) = true := by kernel_rfl
def kn7L : List (List UInt8) := [[97, 99, 99, 101, 112, 116], [32, 44, 32]]
theorem kn7 : matchesL [(accW, [])] (ofL kn7L) = true := by kernel_rfl
def kn8L : List (List UInt8) := [[97, 99, 99, 101, 112, 116], [97]]
theorem kn8 : matchesL [(accW, [])] (ofL kn8L) = false := by kernel_rfl
def kn9L : List (List UInt8) := [[97, 99, 99, 101, 112, 116], [32, 34, 97]]
theorem kn9 : matchesL [(accW, [34, 97])] (ofL kn9L) = true := by kernel_rfl
def kn10L : List (List UInt8) := [[97, 99, 99, 101, 112, 116], [65]]
theorem kn10 : matchesL [(accW, [97])] (ofL kn10L) = false := by kernel_rfl
def kn11L : List (List UInt8) := [[97, 99, 99, 101, 112, 116], [97], [120], [121], [65, 99, 99, 101, 112, 116], [34, 98, 44, 99, 34]]
theorem kn11 : matchesL [(accW, [97, 44, 32, 34, 98, 44, 99, 34])] (ofL kn11L) = true := by kernel_rfl
def knN : List (List UInt8) := [[97, 99, 99, 101, 112, 116], [120]]
def knS : List (List UInt8) := [[65, 99, 99, 101, 112, 116], [97, 32, 44, 98], [65, 67, 67, 69, 80, 84], [99], [89], [100]]
theorem kn_sel : selectL knN (ofL knS) = [([97, 99, 99, 101, 112, 116], [97, 44, 32, 98, 44, 32, 99]), ([120], [])] := by kernel_rfl
def knE : List (List UInt8) := [[97], [98]]
theorem kn_ent : matchesL [] (ofL knE) = true := by kernel_rfl

set_option maxRecDepth 100000 in
set_option maxHeartbeats 8000000 in
theorem varyKnown_any (w : World) (_ : True) :
    Calls Tryd.prog 5 #[] w fun e w' => e = .returned (.bool true) ∧ Below w.heap.size w w' := by
  have k0 := fun w => names15_new kn0L w (by decide) (small_all _ (by decide)) _ kn0 (by decide)
  rw [show namesT (none) = [97, 108, 108] from by kernel_rfl] at k0
  rw [show (strsV kn0L).toArray = #[.string ⟨#[118, 97, 114, 121]⟩, .string ⟨#[97, 44, 32, 40]⟩] from rfl] at k0
  have K0 := Lib.hid k0; clear k0
  have k1 := fun w => names15_new kn1L w (by decide) (small_all _ (by decide)) _ kn1 (by decide)
  rw [show namesT (none) = [97, 108, 108] from by kernel_rfl] at k1
  rw [show (strsV kn1L).toArray = #[.string ⟨#[118, 97, 114, 121]⟩, .string ⟨#[34]⟩] from rfl] at k1
  have K1 := Lib.hid k1; clear k1
  have k2 := fun w => names15_any none 0 0 kn2L w Rd.nil (by decide) (small_all _ (by decide)) _ kn2 (by decide)
  rw [show namesT (some []) = [] from by kernel_rfl] at k2
  have K2 := Lib.hid k2; clear k2
  have k3 := fun w => names15_new kn3L w (by decide) (small_all _ (by decide)) _ kn3 (by decide)
  rw [show namesT (some []) = [] from by kernel_rfl] at k3
  rw [show (strsV kn3L).toArray = #[.string ⟨#[118, 97, 114, 121]⟩, .string ⟨#[]⟩] from rfl] at k3
  have K3 := Lib.hid k3; clear k3
  have k4 := fun w => names15_new kn4L w (by decide) (small_all _ (by decide)) _ kn4 (by decide)
  rw [show namesT (none) = [97, 108, 108] from by kernel_rfl] at k4
  rw [show (strsV kn4L).toArray = #[.string ⟨#[118, 97, 114, 121]⟩, .string ⟨#[97]⟩, .string ⟨#[86, 97, 114, 121]⟩, .string ⟨#[42]⟩] from rfl] at k4
  have K4 := Lib.hid k4; clear k4
  have k5 := fun w => names15_new kn5L w (by decide) (small_all _ (by decide)) _ kn5 (by decide)
  rw [show namesT (some [[97], [98]]) = [97, 32, 98] from by kernel_rfl] at k5
  rw [show (strsV kn5L).toArray = #[.string ⟨#[120]⟩, .string ⟨#[42]⟩, .string ⟨#[86, 65, 82, 89]⟩, .string ⟨#[65, 44, 97, 44, 66]⟩] from rfl] at k5
  have K5 := Lib.hid k5; clear k5
  have k6 := fun w => matches15_any [] none 0 0 kn6L w Rd.nil (by decide) (small_all _ (by decide))
  rw [kn6] at k6
  have K6 := Lib.hid k6; clear k6
  have k7 := fun w => matches15_new [] kn7L w (by decide) (small_all _ (by decide)) _ kn7
  rw [show (strsV kn7L).toArray = #[.string ⟨#[97, 99, 99, 101, 112, 116]⟩, .string ⟨#[32, 44, 32]⟩] from rfl] at k7
  have K7 := Lib.hid k7; clear k7
  have k8 := fun w => matches15_new [] kn8L w (by decide) (small_all _ (by decide)) _ kn8
  rw [show (strsV kn8L).toArray = #[.string ⟨#[97, 99, 99, 101, 112, 116]⟩, .string ⟨#[97]⟩] from rfl] at k8
  have K8 := Lib.hid k8; clear k8
  have k9 := fun w => matches15_new [34, 97] kn9L w (by decide) (small_all _ (by decide)) _ kn9
  rw [show (strsV kn9L).toArray = #[.string ⟨#[97, 99, 99, 101, 112, 116]⟩, .string ⟨#[32, 34, 97]⟩] from rfl] at k9
  have K9 := Lib.hid k9; clear k9
  have k10 := fun w => matches15_new [97] kn10L w (by decide) (small_all _ (by decide)) _ kn10
  rw [show (strsV kn10L).toArray = #[.string ⟨#[97, 99, 99, 101, 112, 116]⟩, .string ⟨#[65]⟩] from rfl] at k10
  have K10 := Lib.hid k10; clear k10
  have k11 := fun w => matches15_new [97, 44, 32, 34, 98, 44, 99, 34] kn11L w (by decide) (small_all _ (by decide)) _ kn11
  rw [show (strsV kn11L).toArray = #[.string ⟨#[97, 99, 99, 101, 112, 116]⟩, .string ⟨#[97]⟩, .string ⟨#[120]⟩, .string ⟨#[121]⟩, .string ⟨#[65, 99, 99, 101, 112, 116]⟩, .string ⟨#[34, 98, 44, 99, 34]⟩] from rfl] at k11
  have K11 := Lib.hid k11; clear k11
  have ks : ∀ (w w2 : World) (a : Option Addr) (c : Nat), Below (w.alloc (.cells (strsV knN).toArray 9)).heap.size (w.alloc (.cells (strsV knN).toArray 9)) w2 → Rd a (ofL knS).length 2 (fldsV (ofL knS)) w2 → Calls Tryd.prog 14 #[.slice (some ⟨w.heap.size, 0, none⟩) 2 2, .slice a (ofL knS).length c] w2 (FieldsPost w2 (selectL knN (ofL knS))) :=
    fun w w2 a c hb hr => select_any _ 2 2 knN a _ c (ofL knS) w2 ((rd_new w knN 9).below hb) (by decide) (by intro x hx; have := small_all knN (by decide) x hx; omega) hr (by decide) (fun f hf => by have := ofL_mem 1000 knS (small_all _ (by decide)) f hf; omega)
  rw [kn_sel, show (strsV knN).toArray = #[.string ⟨#[97, 99, 99, 101, 112, 116]⟩, .string ⟨#[120]⟩] from rfl, show (ofL knS).length = 3 from rfl] at ks
  have ko : ∀ (w : World), Calls Tryd.prog 19 #[.slice (some ⟨w.heap.size, 0, none⟩) 6 6] (w.alloc (.cells (strsV knS).toArray 9)) (FieldsPost (w.alloc (.cells (strsV knS).toArray 9)) (ofL knS)) :=
    fun w => of15_any _ 6 6 knS _ (rd_new w knS 9) (by decide)
  rw [show (strsV knS).toArray = #[.string ⟨#[65, 99, 99, 101, 112, 116]⟩, .string ⟨#[97, 32, 44, 98]⟩, .string ⟨#[65, 67, 67, 69, 80, 84]⟩, .string ⟨#[99]⟩, .string ⟨#[89]⟩, .string ⟨#[100]⟩] from rfl] at ko
  have kp : ∀ (w : World), Calls Tryd.prog 19 #[.slice (some ⟨w.heap.size, 0, none⟩) 2 2] (w.alloc (.cells (strsV knE).toArray 9)) (FieldsPost (w.alloc (.cells (strsV knE).toArray 9)) (ofL knE)) :=
    fun w => of15_any _ 2 2 knE _ (rd_new w knE 9) (by decide)
  rw [show (strsV knE).toArray = #[.string ⟨#[97]⟩, .string ⟨#[98]⟩] from rfl] at kp
  have km : ∀ (a : Option Addr) (c : Nat) (w : World), Rd a (ofL knE).length 2 (fldsV (ofL knE)) w → Calls Tryd.prog 16 #[.agg #[.int .i64 0, .string ⟨#[]⟩, .int .i64 0, .slice none 0 0, .string ⟨#[]⟩, .int .i64 0, .int .i64 0, .slice none 0 0], .slice a (ofL knE).length c] w fun e w' => e = .returned (.bool (matchesL [] (ofL knE))) ∧ Below w.heap.size w w' :=
    fun a c w h => matches_any 0 ⟨#[]⟩ 0 none 0 0 ⟨#[]⟩ 0 0 none 0 0 [] a (ofL knE).length c (ofL knE) w Rd.nil (by omega) (by simp) h (by decide) (fun f hf => by have := ofL_mem 1000 knE (small_all _ (by decide)) f hf; omega)
  rw [kn_ent] at km
  have KS := Lib.hid ks; have KO := Lib.hid ko; have KP := Lib.hid kp; have KM := Lib.hid km; clear ks ko kp km
  have hB := Below.refl w.heap.size w
  go_enter Tryd.func5, Tryd.ntmps5
  go_wp2_with fail
  refine (K0.out _).mono ?_
  rintro e w1 ⟨rfl, hb⟩
  replace hB := bt hB hb; clear hb
  go_wp2_with fail
  refine (K1.out _).mono ?_
  rintro e w2 ⟨rfl, hb⟩
  replace hB := bt hB hb; clear hb
  go_wp2_with fail
  refine (K2.out _).mono ?_
  rintro e w3 ⟨rfl, hb⟩
  replace hB := bt hB hb; clear hb
  go_wp2_with fail
  refine (K3.out _).mono ?_
  rintro e w4 ⟨rfl, hb⟩
  replace hB := bt hB hb; clear hb
  go_wp2_with fail
  refine (K4.out _).mono ?_
  rintro e w5 ⟨rfl, hb⟩
  replace hB := bt hB hb; clear hb
  go_wp2_with fail
  refine (K5.out _).mono ?_
  rintro e w6 ⟨rfl, hb⟩
  replace hB := bt hB hb; clear hb
  go_wp2_with fail
  have ko6 := KO.out (w6.alloc (.cells #[.string ⟨#[97, 99, 99, 101, 112, 116]⟩, .string ⟨#[120]⟩] 9))
  rw [show (w6.alloc (.cells #[.string ⟨#[97, 99, 99, 101, 112, 116]⟩, .string ⟨#[120]⟩] 9)).heap.size = w6.heap.size + 1 from by simp] at ko6
  refine ko6.mono ?_
  rintro e w7 ⟨oa, oc, rfl, ho7, hb7⟩
  go_wp2_with fail
  have hb67 := ((Below.refl _ (w6.alloc (.cells #[.string ⟨#[97, 99, 99, 101, 112, 116]⟩, .string ⟨#[120]⟩] 9))).alloc (Nat.le_refl _) _).trans (hb7.mono (by simp))
  refine (KS.out w6 w7 oa oc hb67 ho7.rd.2).mono ?_
  rintro e w8 ⟨sa, sc, rfl, ho8, hb8⟩
  have hB8 := bt (hB.trans (((Below.refl w6.heap.size w6).alloc (Nat.le_refl _) _).trans (hb67.mono (by simp)) |>.mono hB.size)) hb8
  obtain ⟨b, o, rfl, hl, c1, c2⟩ := ho8.rd.2.fld_at (k := 0) (by decide)
  obtain ⟨b', o', e', hl', c3, c4⟩ := ho8.rd.2.fld_at (k := 1) (by decide)
  cases e'
  simp at c1 c2 c3 c4
  clear ho8 ho7 hb7 hb67 hb8 hB
  go_wp2_with fail
  refine (KP.out _).mono ?_
  rintro e w9 ⟨ea, ec, rfl, ho9, hb9⟩
  replace hB8 := hB8.trans (((Below.refl w8.heap.size w8).alloc (Nat.le_refl _) _).trans (hb9.mono (by simp)) |>.mono hB8.size)
  go_wp2_with fail
  refine (KM.out _ _ _ ho9.rd.2).mono ?_
  rintro e w10 ⟨rfl, hb10⟩
  replace hB8 := bt hB8 hb10
  clear ho9 hb9 hb10 c1 c2 c3 c4
  go_wp2_with fail
  refine (K6.out _).mono ?_
  rintro e w11 ⟨rfl, hb⟩
  replace hB8 := bt hB8 hb; clear hb
  go_wp2_with fail
  refine (K7.out _).mono ?_
  rintro e w12 ⟨rfl, hb⟩
  replace hB8 := bt hB8 hb; clear hb
  go_wp2_with fail
  refine (K8.out _).mono ?_
  rintro e w13 ⟨rfl, hb⟩
  replace hB8 := bt hB8 hb; clear hb
  go_wp2_with fail
  refine (K9.out _).mono ?_
  rintro e w14 ⟨rfl, hb⟩
  replace hB8 := bt hB8 hb; clear hb
  go_wp2_with fail
  refine (K10.out _).mono ?_
  rintro e w15 ⟨rfl, hb⟩
  replace hB8 := bt hB8 hb; clear hb
  go_wp2_with fail
  refine (K11.out _).mono ?_
  rintro e w16 ⟨rfl, hb⟩
  replace hB8 := bt hB8 hb; clear hb
  go_wp2_with fail
  refine (awake15_any _).mono ?_
  rintro e w17 ⟨rfl, hb⟩
  go_wp2
  go_ret
  exact ⟨rfl, bt hB8 hb⟩
end Go.Proofs.YtdlajobnnnmojaaDoor
