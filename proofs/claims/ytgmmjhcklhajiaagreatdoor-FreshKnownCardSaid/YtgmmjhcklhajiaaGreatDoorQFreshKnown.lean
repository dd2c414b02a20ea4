/- Joined out of the texts FreshKnown (wip/tools/merge.py). -/
import Derived.Test.YtgmmjhcklhajiaaGreatDoorPa7
/- FreshKnown: the walk of the law (printed by wip/tools/known13.py). -/
namespace Go.Proofs.YtgmmjhcklhajiaaGreatDoor
open Go.RowKit
set_option maxRecDepth 100000

def eF : List Fld := [([115, 117, 114, 114, 111, 103, 97, 116, 101, 45, 99, 111, 110, 116, 114, 111, 108], [109, 97, 120, 45, 97, 103, 101, 61, 52, 48, 43, 57])]
theorem fk0 (w : World) (hE : DEnv w) : Calls Tryz.prog 31 #[.int .i64 0, .int .i64 30, .slice (some ⟨w.heap.size, 0, none⟩) 2 2] (w.alloc (.cells #[.string ⟨#[99, 97, 99, 104, 101, 45, 99, 111, 110, 116, 114, 111, 108]⟩, .string ⟨#[109, 97, 120, 45, 97, 103, 101, 61, 51, 48, 44, 32, 110, 111, 45, 99, 97, 99, 104, 101]⟩] 9)) fun e w' => e = .returned (.bool true) ∧ Below w.heap.size w w' :=
  is13_new 0 30 [([99, 97, 99, 104, 101, 45, 99, 111, 110, 116, 114, 111, 108], [109, 97, 120, 45, 97, 103, 101, 61, 51, 48, 44, 32, 110, 111, 45, 99, 97, 99, 104, 101])] 2 rfl w hE (by decide) (by decide) (by kernel_rfl) (by kernel_rfl)
theorem fk1 (w : World) (hE : DEnv w) : Calls Tryz.prog 31 #[.int .i64 40, .int .i64 30, .slice (some ⟨w.heap.size, 0, none⟩) 4 4] (w.alloc (.cells #[.string ⟨#[99, 97, 99, 104, 101, 45, 99, 111, 110, 116, 114, 111, 108]⟩, .string ⟨#[110, 111, 45, 99, 97, 99, 104, 101]⟩, .string ⟨#[115, 117, 114, 114, 111, 103, 97, 116, 101, 45, 99, 111, 110, 116, 114, 111, 108]⟩, .string ⟨#[109, 97, 120, 45, 97, 103, 101, 61, 52, 48, 43, 57]⟩] 9)) fun e w' => e = .returned (.bool true) ∧ Below w.heap.size w w' :=
  is13_new 40 30 [([99, 97, 99, 104, 101, 45, 99, 111, 110, 116, 114, 111, 108], [110, 111, 45, 99, 97, 99, 104, 101]), ([115, 117, 114, 114, 111, 103, 97, 116, 101, 45, 99, 111, 110, 116, 114, 111, 108], [109, 97, 120, 45, 97, 103, 101, 61, 52, 48, 43, 57])] 4 rfl w hE (by decide) (by decide) (by kernel_rfl) (by kernel_rfl)
theorem fk2 (w : World) (hE : DEnv w) : Calls Tryz.prog 31 #[.int .i64 0, .int .i64 30, .slice (some ⟨w.heap.size, 0, none⟩) 2 2] (w.alloc (.cells #[.string ⟨#[99, 97, 99, 104, 101, 45, 99, 111, 110, 116, 114, 111, 108]⟩, .string ⟨#[109, 97, 120, 45, 97, 103, 101, 61, 120]⟩] 9)) fun e w' => e = .returned (.bool true) ∧ Below w.heap.size w w' :=
  is13_new 0 30 [([99, 97, 99, 104, 101, 45, 99, 111, 110, 116, 114, 111, 108], [109, 97, 120, 45, 97, 103, 101, 61, 120])] 2 rfl w hE (by decide) (by decide) (by kernel_rfl) (by kernel_rfl)
theorem fk3 (w : World) (hE : DEnv w) : Calls Tryz.prog 31 #[.int .i64 0, .int .i64 30, .slice (some ⟨w.heap.size, 0, none⟩) 2 2] (w.alloc (.cells #[.string ⟨#[101, 120, 112, 105, 114, 101, 115]⟩, .string ⟨#[48]⟩] 9)) fun e w' => e = .returned (.bool true) ∧ Below w.heap.size w w' :=
  is13_new 0 30 [([101, 120, 112, 105, 114, 101, 115], [48])] 2 rfl w hE (by decide) (by decide) (by kernel_rfl) (by kernel_rfl)
theorem fk4 (w : World) (hE : DEnv w) : Calls Tryz.prog 31 #[.int .i64 0, .int .i64 30, .slice none 0 0] w fun e w' => e = .returned (.bool true) ∧ Below w.heap.size w w' :=
  is13_any 0 30 none 0 0 [] w hE Rd.nil (by decide) (by decide) (by kernel_rfl) (by kernel_rfl)
theorem fk5 (w : World) (hE : DEnv w) : Calls Tryz.prog 31 #[.int .i64 0, .int .i64 30, .slice (some ⟨w.heap.size, 0, none⟩) 2 2] (w.alloc (.cells #[.string ⟨#[99, 97, 99, 104, 101, 45, 99, 111, 110, 116, 114, 111, 108]⟩, .string ⟨#[115, 45, 109, 97, 120, 97, 103, 101, 44, 32, 109, 97, 120, 45, 97, 103, 101, 61, 57]⟩] 9)) fun e w' => e = .returned (.bool true) ∧ Below w.heap.size w w' :=
  is13_new 0 30 [([99, 97, 99, 104, 101, 45, 99, 111, 110, 116, 114, 111, 108], [115, 45, 109, 97, 120, 97, 103, 101, 44, 32, 109, 97, 120, 45, 97, 103, 101, 61, 57])] 2 rfl w hE (by decide) (by decide) (by kernel_rfl) (by kernel_rfl)
theorem fk6 (w : World) (hE : DEnv w) : Calls Tryz.prog 31 #[.int .i64 10, .int .i64 30, .slice (some ⟨w.heap.size, 0, none⟩) 2 2] (w.alloc (.cells #[.string ⟨#[101, 120, 112, 105, 114, 101, 115]⟩, .string ⟨#[84, 104, 117, 44, 32, 48, 49, 32, 74, 97, 110, 32, 49, 57, 55, 48, 32, 48, 48, 58, 48, 50, 58, 48, 48, 32, 71, 77, 84]⟩] 9)) fun e w' => e = .returned (.bool true) ∧ Below w.heap.size w w' :=
  is13_new 10 30 [([101, 120, 112, 105, 114, 101, 115], [84, 104, 117, 44, 32, 48, 49, 32, 74, 97, 110, 32, 49, 57, 55, 48, 32, 48, 48, 58, 48, 50, 58, 48, 48, 32, 71, 77, 84])] 2 rfl w hE (by decide) (by decide) (by kernel_rfl) (by kernel_rfl)
theorem fk7 (w : World) (hE : DEnv w) : Calls Tryz.prog 31 #[.int .i64 0, .int .i64 30, .slice (some ⟨w.heap.size, 0, none⟩) 4 4] (w.alloc (.cells #[.string ⟨#[101, 120, 112, 105, 114, 101, 115]⟩, .string ⟨#[84, 104, 117, 44, 32, 48, 49, 32, 74, 97, 110, 32, 49, 57, 55, 48, 32, 48, 48, 58, 48, 50, 58, 48, 48, 32, 71, 77, 84]⟩, .string ⟨#[101, 120, 112, 105, 114, 101, 115]⟩, .string ⟨#[84, 104, 117, 44, 32, 48, 49, 32, 74, 97, 110, 32, 49, 57, 55, 48, 32, 48, 48, 58, 48, 50, 58, 48, 48, 32, 71, 77, 84]⟩] 9)) fun e w' => e = .returned (.bool true) ∧ Below w.heap.size w w' :=
  is13_new 0 30 [([101, 120, 112, 105, 114, 101, 115], [84, 104, 117, 44, 32, 48, 49, 32, 74, 97, 110, 32, 49, 57, 55, 48, 32, 48, 48, 58, 48, 50, 58, 48, 48, 32, 71, 77, 84]), ([101, 120, 112, 105, 114, 101, 115], [84, 104, 117, 44, 32, 48, 49, 32, 74, 97, 110, 32, 49, 57, 55, 48, 32, 48, 48, 58, 48, 50, 58, 48, 48, 32, 71, 77, 84])] 4 rfl w hE (by decide) (by decide) (by kernel_rfl) (by kernel_rfl)
theorem fk8 (w : World) (hE : DEnv w) : Calls Tryz.prog 31 #[.int .i64 9, .int .i64 30, .slice (some ⟨w.heap.size, 0, none⟩) 2 2] (w.alloc (.cells #[.string ⟨#[99, 97, 99, 104, 101, 45, 99, 111, 110, 116, 114, 111, 108]⟩, .string ⟨#[109, 97, 120, 45, 97, 103, 101, 61, 57, 44, 32, 109, 97, 120, 45, 97, 103, 101, 61, 57, 57]⟩] 9)) fun e w' => e = .returned (.bool true) ∧ Below w.heap.size w w' :=
  is13_new 9 30 [([99, 97, 99, 104, 101, 45, 99, 111, 110, 116, 114, 111, 108], [109, 97, 120, 45, 97, 103, 101, 61, 57, 44, 32, 109, 97, 120, 45, 97, 103, 101, 61, 57, 57])] 2 rfl w hE (by decide) (by decide) (by kernel_rfl) (by kernel_rfl)
theorem fk9 (w : World) (hE : DEnv w) : Calls Tryz.prog 31 #[.int .i64 99, .int .i64 37, .slice (some ⟨w.heap.size, 0, none⟩) 4 4] (w.alloc (.cells #[.string ⟨#[99, 97, 99, 104, 101, 45, 99, 111, 110, 116, 114, 111, 108]⟩, .string ⟨#[109, 97, 120, 45, 97, 103, 101, 61, 34, 57, 57, 34]⟩, .string ⟨#[97, 103, 101]⟩, .string ⟨#[55]⟩] 9)) fun e w' => e = .returned (.bool true) ∧ Below w.heap.size w w' :=
  is13_new 99 37 [([99, 97, 99, 104, 101, 45, 99, 111, 110, 116, 114, 111, 108], [109, 97, 120, 45, 97, 103, 101, 61, 34, 57, 57, 34]), ([97, 103, 101], [55])] 4 rfl w hE (by decide) (by decide) (by kernel_rfl) (by kernel_rfl)
theorem fk10 (w : World) (hE : DEnv w) : Calls Tryz.prog 31 #[.int .i64 9, .int .i64 30, .slice (some ⟨w.heap.size, 0, none⟩) 4 4] (w.alloc (.cells #[.string ⟨#[99, 97, 99, 104, 101, 45, 99, 111, 110, 116, 114, 111, 108]⟩, .string ⟨#[109, 97, 120, 45, 97, 103, 101, 61, 57]⟩, .string ⟨#[97, 103, 101]⟩, .string ⟨#[45, 55]⟩] 9)) fun e w' => e = .returned (.bool true) ∧ Below w.heap.size w w' :=
  is13_new 9 30 [([99, 97, 99, 104, 101, 45, 99, 111, 110, 116, 114, 111, 108], [109, 97, 120, 45, 97, 103, 101, 61, 57]), ([97, 103, 101], [45, 55])] 4 rfl w hE (by decide) (by decide) (by kernel_rfl) (by kernel_rfl)
theorem fk11 (w : World) (hE : DEnv w) : Calls Tryz.prog 31 #[.int .i64 9, .int .i64 30, .slice (some ⟨w.heap.size, 0, none⟩) 4 4] (w.alloc (.cells #[.string ⟨#[99, 97, 99, 104, 101, 45, 99, 111, 110, 116, 114, 111, 108]⟩, .string ⟨#[109, 97, 120, 45, 97, 103, 101, 61, 57]⟩, .string ⟨#[100, 97, 116, 101]⟩, .string ⟨#[84, 104, 117, 44, 32, 48, 49, 32, 74, 97, 110, 32, 49, 57, 55, 48, 32, 48, 48, 58, 48, 50, 58, 48, 48, 32, 71, 77, 84]⟩] 9)) fun e w' => e = .returned (.bool true) ∧ Below w.heap.size w w' :=
  is13_new 9 30 [([99, 97, 99, 104, 101, 45, 99, 111, 110, 116, 114, 111, 108], [109, 97, 120, 45, 97, 103, 101, 61, 57]), ([100, 97, 116, 101], [84, 104, 117, 44, 32, 48, 49, 32, 74, 97, 110, 32, 49, 57, 55, 48, 32, 48, 48, 58, 48, 50, 58, 48, 48, 32, 71, 77, 84])] 4 rfl w hE (by decide) (by decide) (by kernel_rfl) (by kernel_rfl)
theorem fk12 (w : World) (hE : DEnv w) : Calls Tryz.prog 31 #[.int .i64 2147483648, .int .i64 2147483648, .slice (some ⟨w.heap.size, 0, none⟩) 4 4] (w.alloc (.cells #[.string ⟨#[99, 97, 99, 104, 101, 45, 99, 111, 110, 116, 114, 111, 108]⟩, .string ⟨#[109, 97, 120, 45, 97, 103, 101, 61, 57, 57, 57, 57, 57, 57, 57, 57, 57, 57, 57, 57, 57, 57]⟩, .string ⟨#[97, 103, 101]⟩, .string ⟨#[57, 57, 57, 57, 57, 57, 57, 57, 57, 57, 57, 57, 57, 57]⟩] 9)) fun e w' => e = .returned (.bool true) ∧ Below w.heap.size w w' :=
  is13_new 2147483648 2147483648 [([99, 97, 99, 104, 101, 45, 99, 111, 110, 116, 114, 111, 108], [109, 97, 120, 45, 97, 103, 101, 61, 57, 57, 57, 57, 57, 57, 57, 57, 57, 57, 57, 57, 57, 57]), ([97, 103, 101], [57, 57, 57, 57, 57, 57, 57, 57, 57, 57, 57, 57, 57, 57])] 4 rfl w hE (by decide) (by decide) (by kernel_rfl) (by kernel_rfl)
theorem fkE (w : World) : Calls Tryz.prog 32 #[.slice (some ⟨w.heap.size, 0, none⟩) 2 2] (w.alloc (.cells #[.string ⟨#[115, 117, 114, 114, 111, 103, 97, 116, 101, 45, 99, 111, 110, 116, 114, 111, 108]⟩, .string ⟨#[109, 97, 120, 45, 97, 103, 101, 61, 52, 48, 43, 57]⟩] 9)) fun e w' => ∃ a c, e = .returned (.agg #[.int .i64 0, .string ⟨#[]⟩, .int .i64 0, .slice a 1 c, .string ⟨#[]⟩, .int .i64 100, .int .i64 110, .slice none 0 0]) ∧ Rd a 1 2 (fldsV eF) w' ∧ Below w.heap.size w w' := by
  have hal := (Below.refl w.heap.size w).alloc (Nat.le_refl _) (.cells (fldsV eF).toArray 9)
  refine (entry13_any _ 2 2 eF _ (Rd.newP w eF 9) (by decide)).mono ?_
  rintro e w' ⟨a, c, rfl, ho, hb⟩
  exact ⟨a, c, rfl, ho.rd.2, bt hal hb⟩
theorem fkN (w : World) : Calls Tryz.prog 32 #[.slice none 0 0] w fun e w' => ∃ a c, e = .returned (.agg #[.int .i64 0, .string ⟨#[]⟩, .int .i64 0, .slice a 0 c, .string ⟨#[]⟩, .int .i64 100, .int .i64 110, .slice none 0 0]) ∧ Rd a 0 2 (fldsV []) w' ∧ Below w.heap.size w w' := by
  refine (entry13_any none 0 0 [] w Rd.nil (by decide)).mono ?_
  rintro e w' ⟨a, c, rfl, ho, hb⟩
  exact ⟨a, c, rfl, ho.rd.2, hb⟩
theorem fkX (a : Option Addr) (c : Nat) (w : World) (hE : DEnv w) (hr : Rd a 1 2 (fldsV eF) w) : Calls Tryz.prog 29 #[.agg #[.int .i64 0, .string ⟨#[]⟩, .int .i64 0, .slice a 1 c, .string ⟨#[]⟩, .int .i64 100, .int .i64 110, .slice none 0 0], .string ⟨#[100]⟩] w fun e w' => e = .returned (.int .i64 9) ∧ Below w.heap.size w w' := by
  have k := extra_any 0 0 100 110 ⟨#[]⟩ ⟨#[]⟩ a none 1 c 0 0 eF ⟨#[100]⟩ w hE.1 hr (by decide) (by decide)
  rw [show extraF eF (⟨#[100]⟩ : ByteArray).data.toList = 9 from by kernel_rfl] at k
  exact k
theorem fkX0 (a : Option Addr) (c : Nat) (w : World) (hE : DEnv w) (hr : Rd a 0 2 (fldsV []) w) : Calls Tryz.prog 29 #[.agg #[.int .i64 0, .string ⟨#[]⟩, .int .i64 0, .slice a 0 c, .string ⟨#[]⟩, .int .i64 100, .int .i64 110, .slice none 0 0], .string ⟨#[100]⟩] w fun e w' => e = .returned (.int .i64 0) ∧ Below w.heap.size w w' := by
  have k := extra_any 0 0 100 110 ⟨#[]⟩ ⟨#[]⟩ a none 0 c 0 0 [] ⟨#[100]⟩ w hE.1 hr (by decide) (by decide)
  rw [show extraF [] (⟨#[100]⟩ : ByteArray).data.toList = 0 from by kernel_rfl] at k
  exact k
theorem fkF139 (a : Option Addr) (c : Nat) (w : World) (hE : DEnv w) (hr : Rd a 1 2 (fldsV eF) w) : Calls Tryz.prog 23 #[.agg #[.int .i64 0, .string ⟨#[]⟩, .int .i64 0, .slice a 1 c, .string ⟨#[]⟩, .int .i64 100, .int .i64 110, .slice none 0 0], .int .i64 139, .string ⟨#[100]⟩] w fun e w' => e = .returned (.bool true) ∧ Below w.heap.size w w' := by
  have k := fresh_any 0 0 100 110 139 ⟨#[]⟩ ⟨#[]⟩ a none 1 c 0 0 eF ⟨#[100]⟩ w hE hr (by decide) (by decide) (by decide) (by decide) (by decide)
  rw [show freshF eF 100 110 139 (⟨#[100]⟩ : ByteArray).data.toList = true from by kernel_rfl] at k
  exact k
theorem fkF140 (a : Option Addr) (c : Nat) (w : World) (hE : DEnv w) (hr : Rd a 1 2 (fldsV eF) w) : Calls Tryz.prog 23 #[.agg #[.int .i64 0, .string ⟨#[]⟩, .int .i64 0, .slice a 1 c, .string ⟨#[]⟩, .int .i64 100, .int .i64 110, .slice none 0 0], .int .i64 140, .string ⟨#[100]⟩] w fun e w' => e = .returned (.bool false) ∧ Below w.heap.size w w' := by
  have k := fresh_any 0 0 100 110 140 ⟨#[]⟩ ⟨#[]⟩ a none 1 c 0 0 eF ⟨#[100]⟩ w hE hr (by decide) (by decide) (by decide) (by decide) (by decide)
  rw [show freshF eF 100 110 140 (⟨#[100]⟩ : ByteArray).data.toList = false from by kernel_rfl] at k
  exact k
theorem fkA (a : Option Addr) (c : Nat) (w : World) (hE : DEnv w) (hr : Rd a 1 2 (fldsV eF) w) : Calls Tryz.prog 21 #[.agg #[.int .i64 0, .string ⟨#[]⟩, .int .i64 0, .slice a 1 c, .string ⟨#[]⟩, .int .i64 100, .int .i64 110, .slice none 0 0], .int .i64 50] w fun e w' => e = .returned (.int .i64 10) ∧ Below w.heap.size w w' := by
  have k := age_any 0 0 100 110 50 ⟨#[]⟩ ⟨#[]⟩ a none 1 c 0 0 eF w hE hr (by decide) (by decide) (by decide) (by decide) (by decide)
  rw [show ageF eF 100 110 50 = 10 from by kernel_rfl] at k
  exact k
theorem fkT (w : World) (hE : DEnv w) : Calls Tryz.prog 21 #[.agg #[.int .i64 0, .string ⟨#[]⟩, .int .i64 0, .slice none 0 0, .string ⟨#[]⟩, .int .i64 9223372036854775807, .int .i64 (-9223372036854775808), .slice none 0 0], .int .i64 9223372036854775807] w fun e w' => e = .returned (.int .i64 2147483648) ∧ Below w.heap.size w w' := by
  have k := age_any 0 0 9223372036854775807 (-9223372036854775808) 9223372036854775807 ⟨#[]⟩ ⟨#[]⟩ none none 0 0 0 0 [] w hE Rd.nil (by decide) (by decide) (by decide) (by decide) (by decide)
  rw [show ageF [] 9223372036854775807 (-9223372036854775808) 9223372036854775807 = 2147483648 from by kernel_rfl] at k
  exact k
set_option maxHeartbeats 32000000 in
theorem freshKnown_any (w0 : World) (hE : DEnv w0) :
    Calls Tryz.prog 7 #[] w0 fun e w' => e = .returned (.bool true) ∧ Below w0.heap.size w0 w' := by
  have HB0 := Lib.hid (Below.refl w0.heap.size w0)
  go_enter Tryz.func7, Tryz.ntmps7
  have kk := fk0 w0 (hE.below HB0.out)
  have KK := Lib.hid kk
  clear kk
  go_wp2_with fail
  (with_reducible refine KK.out.mono ?_)
  rintro e w1 ⟨rfl, hb⟩
  have HB1 := Lib.hid (bt HB0.out hb)
  clear hb KK HB0
  have kk := fk1 w1 (hE.below HB1.out)
  have KK := Lib.hid kk
  clear kk
  go_wp2_with fail
  (with_reducible refine KK.out.mono ?_)
  rintro e w2 ⟨rfl, hb⟩
  have HB2 := Lib.hid (bt HB1.out hb)
  clear hb KK HB1
  have kk := fk2 w2 (hE.below HB2.out)
  have KK := Lib.hid kk
  clear kk
  go_wp2_with fail
  (with_reducible refine KK.out.mono ?_)
  rintro e w3 ⟨rfl, hb⟩
  have HB3 := Lib.hid (bt HB2.out hb)
  clear hb KK HB2
  have kk := fk3 w3 (hE.below HB3.out)
  have KK := Lib.hid kk
  clear kk
  go_wp2_with fail
  (with_reducible refine KK.out.mono ?_)
  rintro e w4 ⟨rfl, hb⟩
  have HB4 := Lib.hid (bt HB3.out hb)
  clear hb KK HB3
  have kk := fk4 w4 (hE.below HB4.out)
  have KK := Lib.hid kk
  clear kk
  go_wp2_with fail
  (with_reducible refine KK.out.mono ?_)
  rintro e w5 ⟨rfl, hb⟩
  have HB5 := Lib.hid (bt HB4.out hb)
  clear hb KK HB4
  have kk := fk5 w5 (hE.below HB5.out)
  have KK := Lib.hid kk
  clear kk
  go_wp2_with fail
  (with_reducible refine KK.out.mono ?_)
  rintro e w6 ⟨rfl, hb⟩
  have HB6 := Lib.hid (bt HB5.out hb)
  clear hb KK HB5
  have kk := fk6 w6 (hE.below HB6.out)
  have KK := Lib.hid kk
  clear kk
  go_wp2_with fail
  (with_reducible refine KK.out.mono ?_)
  rintro e w7 ⟨rfl, hb⟩
  have HB7 := Lib.hid (bt HB6.out hb)
  clear hb KK HB6
  have kk := fk7 w7 (hE.below HB7.out)
  have KK := Lib.hid kk
  clear kk
  go_wp2_with fail
  (with_reducible refine KK.out.mono ?_)
  rintro e w8 ⟨rfl, hb⟩
  have HB8 := Lib.hid (bt HB7.out hb)
  clear hb KK HB7
  have kk := fk8 w8 (hE.below HB8.out)
  have KK := Lib.hid kk
  clear kk
  go_wp2_with fail
  (with_reducible refine KK.out.mono ?_)
  rintro e w9 ⟨rfl, hb⟩
  have HB9 := Lib.hid (bt HB8.out hb)
  clear hb KK HB8
  have kk := fk9 w9 (hE.below HB9.out)
  have KK := Lib.hid kk
  clear kk
  go_wp2_with fail
  (with_reducible refine KK.out.mono ?_)
  rintro e w10 ⟨rfl, hb⟩
  have HB10 := Lib.hid (bt HB9.out hb)
  clear hb KK HB9
  have kk := fk10 w10 (hE.below HB10.out)
  have KK := Lib.hid kk
  clear kk
  go_wp2_with fail
  (with_reducible refine KK.out.mono ?_)
  rintro e w11 ⟨rfl, hb⟩
  have HB11 := Lib.hid (bt HB10.out hb)
  clear hb KK HB10
  have kk := fk11 w11 (hE.below HB11.out)
  have KK := Lib.hid kk
  clear kk
  go_wp2_with fail
  (with_reducible refine KK.out.mono ?_)
  rintro e w12 ⟨rfl, hb⟩
  have HB12 := Lib.hid (bt HB11.out hb)
  clear hb KK HB11
  have kk := fk12 w12 (hE.below HB12.out)
  have KK := Lib.hid kk
  clear kk
  go_wp2_with fail
  (with_reducible refine KK.out.mono ?_)
  rintro e w13 ⟨rfl, hb⟩
  have HB13 := Lib.hid (bt HB12.out hb)
  clear hb KK HB12
  have kk := fkE w13
  have KK := Lib.hid kk
  clear kk
  go_wp2_with fail
  (with_reducible refine KK.out.mono ?_)
  rintro e y1 ⟨a, c, rfl, r1, hb⟩
  obtain ⟨Y2, hY2⟩ : ∃ W2, y1.alloc (.cells #[.int .i64 0, .string ⟨#[]⟩, .int .i64 0, .slice a 1 c, .string ⟨#[]⟩, .int .i64 100, .int .i64 110, .slice none 0 0] 26) = W2 := ⟨_, rfl⟩
  have b2 : Below y1.heap.size y1 Y2 := by rw [← hY2]; exact (Below.refl y1.heap.size y1).alloc (Nat.le_refl _) _
  have x2 : EntAt y1.heap.size 0 ⟨#[]⟩ 0 a 1 c ⟨#[]⟩ 100 110 none 0 0 Y2 := by rw [← hY2]; exact heap_new y1 _ _ rfl
  have z2 : Y2.heap.size = y1.heap.size + 1 := by rw [← hY2]; simp
  obtain ⟨Y3, hY3⟩ : ∃ W2, Y2.alloc (.cells #[.int .i64 0, .string ⟨#[]⟩, .int .i64 0, .slice none 0 0, .string ⟨#[]⟩, .int .i64 9223372036854775807, .int .i64 (-9223372036854775808), .slice none 0 0] 26) = W2 := ⟨_, rfl⟩
  have b3 : Below Y2.heap.size Y2 Y3 := by rw [← hY3]; exact (Below.refl Y2.heap.size Y2).alloc (Nat.le_refl _) _
  have x3 : EntAt (y1.heap.size + 1) 0 ⟨#[]⟩ 0 none 0 0 ⟨#[]⟩ 9223372036854775807 (-9223372036854775808) none 0 0 Y3 := by rw [← hY3]; exact heap_new Y2 _ _ z2
  have x2 := x2.below b3
  have r1 := (r1.below b2).below b3
  have HBY := Lib.hid (bt (bt (bt HB13.out hb) b2) b3)
  have HY2 := Lib.hid hY2; have HY3 := Lib.hid hY3
  have X2 := Lib.hid x2; have X3 := Lib.hid x3; have R1 := Lib.hid r1
  have KK := Lib.hid (fkX a c Y3 (hE.below HBY.out) r1)
  obtain ⟨c0, c1, c2, c3, c4, c5, c6, c7, cl⟩ := x2.cells
  clear hb b2 x2 z2 b3 x3 r1 hY2 hY3 HB13
  go_wp2_with fail
  rw [HY2.out, HY3.out]
  (with_reducible refine KK.out.mono ?_)
  rintro e y4 ⟨rfl, hb⟩
  have HB := Lib.hid (bt HBY.out hb); have X2 := Lib.hid (X2.out.below hb); have X3 := Lib.hid (X3.out.below hb); have R1 := Lib.hid (R1.out.below hb)
  have KK := Lib.hid (fkN y4)
  clear hb HBY c0 c1 c2 c3 c4 c5 c6 c7 cl
  go_wp2_with fail
  (with_reducible refine KK.out.mono ?_)
  rintro e y5 ⟨a0, c0', rfl, r0, hb⟩
  have HB := Lib.hid (bt HB.out hb); have X2 := Lib.hid (X2.out.below hb); have X3 := Lib.hid (X3.out.below hb); have R1 := Lib.hid (R1.out.below hb)
  have KK := Lib.hid (fkX0 a0 c0' y5 (hE.below HB.out) r0)
  clear hb r0
  go_wp2_with fail
  (with_reducible refine KK.out.mono ?_)
  rintro e y6 ⟨rfl, hb⟩
  have HB := Lib.hid (bt HB.out hb); have X2 := Lib.hid (X2.out.below hb); have X3 := Lib.hid (X3.out.below hb); have R1 := Lib.hid (R1.out.below hb)
  have KK := Lib.hid (fkF139 a c y6 (hE.below HB.out) R1.out)
  clear hb
  obtain ⟨c0, c1, c2, c3, c4, c5, c6, c7, cl⟩ := X2.out.cells
  go_wp2_with fail
  (with_reducible refine KK.out.mono ?_)
  clear c0 c1 c2 c3 c4 c5 c6 c7 cl
  rintro e y7 ⟨rfl, hb⟩
  have HB := Lib.hid (bt HB.out hb); have X2 := Lib.hid (X2.out.below hb); have X3 := Lib.hid (X3.out.below hb); have R1 := Lib.hid (R1.out.below hb)
  have KK := Lib.hid (fkF140 a c y7 (hE.below HB.out) R1.out)
  clear hb
  obtain ⟨c0, c1, c2, c3, c4, c5, c6, c7, cl⟩ := X2.out.cells
  go_wp2_with fail
  (with_reducible refine KK.out.mono ?_)
  clear c0 c1 c2 c3 c4 c5 c6 c7 cl
  rintro e y8 ⟨rfl, hb⟩
  have HB := Lib.hid (bt HB.out hb); have X2 := Lib.hid (X2.out.below hb); have X3 := Lib.hid (X3.out.below hb); have R1 := Lib.hid (R1.out.below hb)
  have KK := Lib.hid (fkA a c y8 (hE.below HB.out) R1.out)
  clear hb
  obtain ⟨c0, c1, c2, c3, c4, c5, c6, c7, cl⟩ := X2.out.cells
  go_wp2_with fail
  (with_reducible refine KK.out.mono ?_)
  clear c0 c1 c2 c3 c4 c5 c6 c7 cl
  rintro e y9 ⟨rfl, hb⟩
  have HB := Lib.hid (bt HB.out hb); have X2 := Lib.hid (X2.out.below hb); have X3 := Lib.hid (X3.out.below hb); have R1 := Lib.hid (R1.out.below hb)
  have KK := Lib.hid (fkT y9 (hE.below HB.out))
  clear hb
  obtain ⟨c0, c1, c2, c3, c4, c5, c6, c7, cl⟩ := X3.out.cells
  go_wp2_with fail
  (with_reducible refine KK.out.mono ?_)
  clear c0 c1 c2 c3 c4 c5 c6 c7 cl
  rintro e y10 ⟨rfl, hb⟩
  have HB := Lib.hid (bt HB.out hb); have X2 := Lib.hid (X2.out.below hb); have X3 := Lib.hid (X3.out.below hb); have R1 := Lib.hid (R1.out.below hb)
  have KK := Lib.hid (awake13_any y10 (hE.below HB.out))
  clear hb
  go_wp2_with fail
  (with_reducible refine KK.out.mono ?_)
  rintro e y11 ⟨rfl, hb⟩
  have HB := Lib.hid (bt HB.out hb)
  clear hb
  go_wp2
  go_ret
  exact ⟨rfl, HB.out⟩
end Go.Proofs.YtgmmjhcklhajiaaGreatDoor
