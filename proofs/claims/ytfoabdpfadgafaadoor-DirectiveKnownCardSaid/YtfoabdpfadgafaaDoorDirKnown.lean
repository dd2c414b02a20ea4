/- DirectiveKnown: the walk of the law (printed by wip/tools/known11.py). -/
import Derived.Test.YtfoabdpfadgafaaDoorFind
import Derived.Test.YtfoabdpfadgafaaDoorAwake11
namespace Go.Proofs.YtfoabdpfadgafaaDoor
open Go.RowKit
set_option maxRecDepth 100000

theorem Rd.newS (w : World) (ls : List (List UInt8)) (T : TypeId) : Rd (some ⟨w.heap.size, 0, none⟩) ls.length 1 (strsV ls) (w.alloc (.cells (strsV ls).toArray T)) := by
  refine ⟨by simp [strsV], fun _ => ⟨w.heap.size, 0, rfl, by simp, fun j u hu => ?_⟩⟩
  rw [Nat.zero_add, World.cell?_alloc_mark]
  simpa using hu
theorem told_news (ls : List (List UInt8)) (n : Nat) (hn : ls.length = n) (r : List UInt8) (w : World) (hM : MaxL w) (hl : (decide (ls.length ≤ 100) && ls.all fun v => decide (v.length ≤ 1000)) = true) (hx : (decide ((dlistL ls).length ≤ 1000) && (dlistL ls).all fun d => decide (d.name.length ≤ 1000) && decide (d.value.length ≤ 1000)) = true) (hr : toldS false (dlistL ls) = r) :
    Calls Tryd.prog 24 #[.slice (some ⟨w.heap.size, 0, none⟩) n n] (w.alloc (.cells (strsV ls).toArray 9)) fun e w' => e = .returned (.string ⟨r.toArray⟩) ∧ Below w.heap.size w w' := by
  subst hn
  have hal := (Below.refl w.heap.size w).alloc (Nat.le_refl _) (.cells (strsV ls).toArray 9)
  rw [Bool.and_eq_true, decide_eq_true_eq, List.all_eq_true] at hx hl
  obtain ⟨h1, h2⟩ := hx
  have h := told_any _ _ ls.length ls _ (hM.below hal) (Rd.newS w ls 9) (by omega) (fun v hv => by have := hl.2 v hv; simp at this; omega) ⟨h1, fun d hd => by have := h2 d hd; simpa using this⟩
  rw [hr] at h
  exact h.mono fun _ _ ⟨h1, h2⟩ => ⟨h1, hal.trans (h2.mono (by simp))⟩
theorem told_nil (w : World) (hM : MaxL w) : Calls Tryd.prog 24 #[.slice none 0 0] w fun e w' => e = .returned (.string ⟨#[]⟩) ∧ Below w.heap.size w w' :=
  told_any none 0 0 [] w hM Rd.nil (by omega) (by simp) ⟨by decide, by simp [dlistL]⟩
theorem dlist_one (l : List UInt8) (ds : List Dir) (hd : dlistL [l] = ds) (w : World) (hM : MaxL w) (hl : l.length ≤ 1000) :
    Calls Tryd.prog 16 #[.slice (some ⟨w.heap.size, 0, none⟩) 1 1] (w.alloc (.cells #[.string ⟨l.toArray⟩] 9)) (DirsPost w ds) := by
  have hal := (Below.refl w.heap.size w).alloc (Nat.le_refl _) (.cells #[.string ⟨l.toArray⟩] 9)
  have h := dlist_any _ 1 1 [l] _ (hM.below hal) (Rd.newS1 w l 9) (by omega) (by intro v hv; rw [List.mem_singleton.1 hv]; omega)
  rw [hd] at h
  exact h.mono fun _ _ ⟨a, c, h1, h2, h3⟩ => ⟨a, c, h1, h2.base (by simp), hal.trans (h3.mono (by simp))⟩
def kx : List UInt8 := [78, 111, 45, 67, 97, 99, 104, 101, 44, 32, 109, 97, 120, 45, 97, 103, 101, 61, 53, 44, 32, 109, 97, 120, 45, 97, 103, 101, 61, 54]
def kds : List Dir := [⟨[110, 111, 45, 99, 97, 99, 104, 101], [], false, []⟩, ⟨[109, 97, 120, 45, 97, 103, 101], [53], true, []⟩, ⟨[109, 97, 120, 45, 97, 103, 101], [54], true, []⟩]
theorem kx_list : dlistL [kx] = kds := by kernel_rfl
theorem kf1 : findO kds [77, 65, 88, 45, 65, 71, 69] = some ⟨[109, 97, 120, 45, 97, 103, 101], [53], true, []⟩ := by kernel_rfl
theorem kf2 : findO kds [120] = none := by kernel_rfl
theorem kds_small : ∀ d ∈ kds, d.name.length ≤ 140737488351232 := by intro d hd; simp [kds] at hd; rcases hd with rfl | rfl | rfl <;> decide
def rep65 : List UInt8 := (List.replicate 65 [97, 44]).flatten
theorem rep65_eq : Lib.repeatL [97, 44] 65 = rep65 := by kernel_rfl
theorem kt0 (w : World) (hM : MaxL w) : Calls Tryd.prog 24 #[.slice (some ⟨w.heap.size, 0, none⟩) 1 1] (w.alloc (.cells #[.string ⟨#[97, 61, 32, 44, 32, 61, 98, 44, 32, 97, 32, 98, 44, 32, 97, 32, 61, 32, 98, 44, 32, 99, 61, 40, 44, 32, 100, 61, 34, 120, 34, 121, 44, 32, 101, 61]⟩] 9)) fun e w' => e = .returned (.string ⟨#[]⟩) ∧ Below w.heap.size w w' :=
  told_news [[97, 61, 32, 44, 32, 61, 98, 44, 32, 97, 32, 98, 44, 32, 97, 32, 61, 32, 98, 44, 32, 99, 61, 40, 44, 32, 100, 61, 34, 120, 34, 121, 44, 32, 101, 61]] 1 rfl [] w hM (by kernel_rfl) (by kernel_rfl) (by kernel_rfl)
theorem kt1 (w : World) (hM : MaxL w) : Calls Tryd.prog 24 #[.slice (some ⟨w.heap.size, 0, none⟩) 2 2] (w.alloc (.cells #[.string ⟨#[97]⟩, .string ⟨#[98, 44, 32, 99]⟩] 9)) fun e w' => e = .returned (.string ⟨#[97, 32, 98, 32, 99]⟩) ∧ Below w.heap.size w w' :=
  told_news [[97], [98, 44, 32, 99]] 2 rfl [97, 32, 98, 32, 99] w hM (by kernel_rfl) (by kernel_rfl) (by kernel_rfl)
theorem kt3 (w : World) (hM : MaxL w) : Calls Tryd.prog 24 #[.slice (some ⟨w.heap.size, 0, none⟩) 2 2] (w.alloc (.cells #[.string ⟨#[]⟩, .string ⟨#[32, 44, 32, 44]⟩] 9)) fun e w' => e = .returned (.string ⟨#[]⟩) ∧ Below w.heap.size w w' :=
  told_news [[], [32, 44, 32, 44]] 2 rfl [] w hM (by kernel_rfl) (by kernel_rfl) (by kernel_rfl)
theorem kt4 (w : World) (hM : MaxL w) : Calls Tryd.prog 24 #[.slice (some ⟨w.heap.size, 0, none⟩) 1 1] (w.alloc (.cells #[.string ⟨#[97, 61, 98, 61, 99]⟩] 9)) fun e w' => e = .returned (.string ⟨#[]⟩) ∧ Below w.heap.size w w' :=
  told_news [[97, 61, 98, 61, 99]] 1 rfl [] w hM (by kernel_rfl) (by kernel_rfl) (by kernel_rfl)
theorem kt5 (w : World) (hM : MaxL w) : Calls Tryd.prog 24 #[.slice (some ⟨w.heap.size, 0, none⟩) 1 1] (w.alloc (.cells #[.string ⟨#[97, 61, 34, 92, 34, 34]⟩] 9)) fun e w' => e = .returned (.string ⟨#[97, 61, 34]⟩) ∧ Below w.heap.size w w' :=
  told_news [[97, 61, 34, 92, 34, 34]] 1 rfl [97, 61, 34] w hM (by kernel_rfl) (by kernel_rfl) (by kernel_rfl)
theorem kt6 (w : World) (hM : MaxL w) : Calls Tryd.prog 24 #[.slice (some ⟨w.heap.size, 0, none⟩) 1 1] (w.alloc (.cells #[.string ⟨#[97, 61, 34, 34]⟩] 9)) fun e w' => e = .returned (.string ⟨#[97, 61]⟩) ∧ Below w.heap.size w w' :=
  told_news [[97, 61, 34, 34]] 1 rfl [97, 61] w hM (by kernel_rfl) (by kernel_rfl) (by kernel_rfl)
theorem kt7 (w : World) (hM : MaxL w) : Calls Tryd.prog 24 #[.slice (some ⟨w.heap.size, 0, none⟩) 1 1] (w.alloc (.cells #[.string ⟨rep65.toArray⟩] 9)) fun e w' => e = .returned (.string ⟨#[110, 111, 45, 115, 116, 111, 114, 101]⟩) ∧ Below w.heap.size w w' :=
  told_news [rep65] 1 rfl [110, 111, 45, 115, 116, 111, 114, 101] w hM (by kernel_rfl) (by kernel_rfl) (by kernel_rfl)
theorem kt8 (w : World) (hM : MaxL w) : Calls Tryd.prog 24 #[.slice (some ⟨w.heap.size, 0, none⟩) 3 3] (w.alloc (.cells #[.string ⟨#[120]⟩, .string ⟨#[34]⟩, .string ⟨#[121]⟩] 9)) fun e w' => e = .returned (.string ⟨#[120, 32, 110, 111, 45, 115, 116, 111, 114, 101, 32, 121]⟩) ∧ Below w.heap.size w w' :=
  told_news [[120], [34], [121]] 3 rfl [120, 32, 110, 111, 45, 115, 116, 111, 114, 101, 32, 121] w hM (by kernel_rfl) (by kernel_rfl) (by kernel_rfl)
set_option maxHeartbeats 8000000 in
theorem directiveKnown_any (w : World) (hM : MaxL w) :
    Calls Tryd.prog 7 #[] w fun e w' => e = .returned (.bool true) ∧ Below w.heap.size w w' := by
  have hb0 := Below.refl w.heap.size w
  have e65 : (⟨(Lib.repeatL (⟨#[97, 44]⟩ : ByteArray).data.toList 65).toArray⟩ : ByteArray) = ⟨rep65.toArray⟩ := by rw [show (⟨#[97, 44]⟩ : ByteArray).data.toList = [97, 44] from rfl, rep65_eq]
  have k65 := fun W => Tryd.strings_Repeat ⟨#[97, 44]⟩ 65 W (by decide) (by decide)
  rw [e65] at k65
  obtain ⟨s65, h65⟩ : ∃ s : ByteArray, (⟨rep65.toArray⟩ : ByteArray) = s := ⟨_, rfl⟩
  rw [h65] at k65
  have kt7' := kt7
  rw [h65] at kt7'
  have K65 := Lib.hid k65; have KT7 := Lib.hid kt7'; clear k65 e65 h65 kt7'
  go_enter Tryd.func7, Tryd.ntmps7
  go_wp2_with fail
  refine (kt0 _ (hM.below hb0)).mono ?_
  rintro e w1 ⟨rfl, h1⟩
  have hb1 := bt hb0 h1
  clear h1
  go_wp2_with fail
  refine (kt1 _ (hM.below hb1)).mono ?_
  rintro e w1 ⟨rfl, h1⟩
  have hb2 := bt hb1 h1
  clear h1
  go_wp2_with fail
  refine (told_nil _ (hM.below hb2)).mono ?_
  rintro e w1 ⟨rfl, h1⟩
  have hb3 := bt hb2 h1
  clear h1
  go_wp2_with fail
  refine (kt3 _ (hM.below hb3)).mono ?_
  rintro e w1 ⟨rfl, h1⟩
  have hb4 := bt hb3 h1
  clear h1
  go_wp2_with fail
  refine (kt4 _ (hM.below hb4)).mono ?_
  rintro e w1 ⟨rfl, h1⟩
  have hb5 := bt hb4 h1
  clear h1
  go_wp2_with fail
  refine (kt5 _ (hM.below hb5)).mono ?_
  rintro e w1 ⟨rfl, h1⟩
  have hb6 := bt hb5 h1
  clear h1
  go_wp2_with fail
  refine (kt6 _ (hM.below hb6)).mono ?_
  rintro e w1 ⟨rfl, h1⟩
  have hb7 := bt hb6 h1
  clear h1
  go_wp2_with fail
  refine (K65.out _).mono ?_
  rintro e w1 ⟨rfl, h1⟩
  have hbr := bt hb7 h1
  clear h1
  go_wp2_with fail
  refine (KT7.out _ (hM.below hbr)).mono ?_
  rintro e w1 ⟨rfl, h1⟩
  have hb8 := bt hbr h1
  clear h1
  go_wp2_with fail
  refine (kt8 _ (hM.below hb8)).mono ?_
  rintro e w1 ⟨rfl, h1⟩
  have hb9 := bt hb8 h1
  clear h1
  go_wp2_with fail
  refine (dlist_one kx kds kx_list _ (hM.below hb9) (by decide)).mono ?_
  rintro e w1 ⟨a1, c1, rfl, ho1, h1⟩
  have hb20 := bt hb9 h1
  have hrd := ho1.rd.2
  clear h1 ho1
  have k1 := fun W h => find_any a1 kds.length c1 kds ⟨#[77, 65, 88, 45, 65, 71, 69]⟩ W (hrd.below (w' := W) h) (by decide) kds_small (by decide)
  have k2 := fun W h => find_any a1 kds.length c1 kds ⟨#[120]⟩ W (hrd.below (w' := W) h) (by decide) kds_small (by decide)
  have k3 := fun W => find_any none 0 0 [] ⟨#[]⟩ W Rd.nil (by decide) (by simp) (by decide)
  simp only [kf1, kf2, saidV, show findO [] (⟨#[]⟩ : ByteArray).data.toList = none from rfl] at k1 k2 k3
  have K1 := Lib.hid k1; have K2 := Lib.hid k2; have K3 := Lib.hid k3
  clear k1 k2 k3 hrd
  go_wp2_with fail
  refine (K1.out _ (Below.refl _ _)).mono ?_
  rintro e w2 ⟨rfl, h2⟩
  have j1 := (at4_alloc w2 (.string ⟨#[109, 97, 120, 45, 97, 103, 101]⟩) (.string ⟨#[53]⟩) (.bool true) (.string ⟨#[]⟩) 29)
  have h3 := h2.alloc h2.size (.cells #[.string ⟨#[109, 97, 120, 45, 97, 103, 101]⟩, .string ⟨#[53]⟩, .bool true, .string ⟨#[]⟩] 29)
  obtain ⟨ga, hga⟩ : ∃ ga, w2.heap.size = ga := ⟨_, rfl⟩
  rw [hga] at j1
  have HGA := Lib.hid hga; clear hga h2
  go_wp2_with fail
  refine (K2.out _ h3).mono ?_
  rintro e w3 ⟨rfl, h4⟩
  have j1b := j1.below h4
  have h5 := bt h3 h4
  clear j1 h3 h4
  have j2 := (at4_alloc w3 (.string ⟨#[]⟩) (.string ⟨#[]⟩) (.bool false) (.string ⟨#[]⟩) 29)
  have h6 := h5.alloc h5.size (.cells #[.string ⟨#[]⟩, .string ⟨#[]⟩, .bool false, .string ⟨#[]⟩] 29)
  have j1c := j1b.below ((Below.refl w3.heap.size w3).alloc (Nat.le_refl _) (.cells #[.string ⟨#[]⟩, .string ⟨#[]⟩, .bool false, .string ⟨#[]⟩] 29))
  obtain ⟨gb, hgb⟩ : ∃ gb, w3.heap.size = gb := ⟨_, rfl⟩
  rw [hgb] at j2
  have HGB := Lib.hid hgb; clear hgb h5 j1b
  go_wp2_with fail
  rw [HGA.out, HGB.out]
  refine (K3.out _).mono ?_
  rintro e w4 ⟨rfl, h7⟩
  obtain ⟨p0, p1, p2, p3, _, _, _, _, plt⟩ := j1c.below h7
  obtain ⟨q0, q1, q2, q3, _, _, _, _, qlt⟩ := j2.below h7
  have h8 := bt h6 h7
  have h9 := h8.alloc h8.size (.cells #[.string ⟨#[]⟩, .string ⟨#[]⟩, .bool false, .string ⟨#[]⟩] 29)
  have hM9 := hM.below (hb20.trans (h9.mono hb20.size))
  clear j1c j2 h6 h7 h8 K1 K2 K3
  go_wp2_with fail
  refine (awake11_any _ hM9).mono ?_
  rintro e w5 ⟨rfl, h10⟩
  go_wp2
  go_ret
  exact ⟨rfl, hb20.trans ((bt h9 h10).mono hb20.size)⟩
end Go.Proofs.YtfoabdpfadgafaaDoor
