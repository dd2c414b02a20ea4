/- The walk of the law's awake (layer 11). -/
import Derived.Test.YtfoabdpfadgafaaDoorTold
namespace Go.Proofs.YtfoabdpfadgafaaDoor
open Go.RowKit
set_option maxRecDepth 100000

def aw1 : List UInt8 := [78, 111, 45, 67, 97, 99, 104, 101, 44, 32, 109, 97, 120, 45, 97, 103, 101, 61, 53]
def aw2 : List UInt8 := [109, 97, 120, 45, 97, 103, 101, 61, 57, 44, 32, 34, 120]
def aw3 : List UInt8 := [97, 61, 34, 120, 44, 121, 34, 44, 32, 98]
theorem told_new (l : List UInt8) (ds : List Dir) (r : List UInt8) (w : World) (hM : MaxL w) (hl : l.length ≤ 1000) (hd : dlistL [l] = ds) (hx : (decide (ds.length ≤ 1000) && ds.all fun d => decide (d.name.length ≤ 1000) && decide (d.value.length ≤ 1000)) = true) (hr : toldS false ds = r) :
    Calls Tryd.prog 24 #[.slice (some ⟨w.heap.size, 0, none⟩) 1 1] (w.alloc (.cells #[.string ⟨l.toArray⟩] 9)) fun e w' => e = .returned (.string ⟨r.toArray⟩) ∧ Below w.heap.size w w' := by
  have hal := (Below.refl w.heap.size w).alloc (Nat.le_refl _) (.cells #[.string ⟨l.toArray⟩] 9)
  subst hd
  rw [Bool.and_eq_true, decide_eq_true_eq, List.all_eq_true] at hx
  obtain ⟨h1, h2⟩ := hx
  have h := told_any _ 1 1 [l] _ (hM.below hal) (Rd.newS1 w l 9) (by omega) (by intro v hv; rw [List.mem_singleton.1 hv]; omega) ⟨h1, fun d hd => by have := h2 d hd; simpa using this⟩
  rw [hr] at h
  exact h.mono fun _ _ ⟨h1, h2⟩ => ⟨h1, hal.trans (h2.mono (by simp))⟩
def dw1 : List Dir := [⟨[110, 111, 45, 99, 97, 99, 104, 101], [], false, []⟩, ⟨[109, 97, 120, 45, 97, 103, 101], [53], true, []⟩]
def dw2 : List Dir := [⟨noStore, [], false, []⟩]
def dw3 : List Dir := [⟨[97], [120, 44, 121], true, []⟩, ⟨[98], [], false, []⟩]
theorem aw1_list : dlistL [aw1] = dw1 := by kernel_rfl
theorem aw2_list : dlistL [aw2] = dw2 := by kernel_rfl
theorem aw3_list : dlistL [aw3] = dw3 := by kernel_rfl
set_option maxHeartbeats 4000000 in
theorem awake11_any (w : World) (hM : MaxL w) :
    Calls Tryd.prog 14 #[] w fun e w' => e = .returned (.bool true) ∧ Below w.heap.size w w' := by
  have k1 := fun w h => told_new aw1 dw1 [110, 111, 45, 99, 97, 99, 104, 101, 32, 109, 97, 120, 45, 97, 103, 101, 61, 53] w h (by decide) aw1_list (by decide) (by decide)
  have k2 := fun w h => told_new aw2 dw2 [110, 111, 45, 115, 116, 111, 114, 101] w h (by decide) aw2_list (by decide) (by decide)
  have k3 := fun w h => told_new aw3 dw3 [97, 61, 120, 44, 121, 32, 98] w h (by decide) aw3_list (by decide) (by decide)
  have e1 : (⟨aw1.toArray⟩ : ByteArray) = ⟨#[78, 111, 45, 67, 97, 99, 104, 101, 44, 32, 109, 97, 120, 45, 97, 103, 101, 61, 53]⟩ := rfl
  have e2 : (⟨aw2.toArray⟩ : ByteArray) = ⟨#[109, 97, 120, 45, 97, 103, 101, 61, 57, 44, 32, 34, 120]⟩ := rfl
  have e3 : (⟨aw3.toArray⟩ : ByteArray) = ⟨#[97, 61, 34, 120, 44, 121, 34, 44, 32, 98]⟩ := rfl
  rw [e1] at k1; rw [e2] at k2; rw [e3] at k3
  clear e1 e2 e3
  have K1 := Lib.hid k1; have K2 := Lib.hid k2; have K3 := Lib.hid k3; clear k1 k2 k3
  go_enter Tryd.func14, Tryd.ntmps14
  go_wp2_with fail
  refine (K1.out _ hM).mono ?_
  rintro e w1 ⟨rfl, hb1⟩
  go_wp2_with fail
  refine (K2.out _ (hM.below hb1)).mono ?_
  rintro e w2 ⟨rfl, hb2⟩
  have hB2 := bt hb1 hb2
  go_wp2_with fail
  refine (K3.out _ (hM.below hB2)).mono ?_
  rintro e w3 ⟨rfl, hb3⟩
  go_wp2
  go_ret
  exact ⟨rfl, bt hB2 hb3⟩
end Go.Proofs.YtfoabdpfadgafaaDoor
