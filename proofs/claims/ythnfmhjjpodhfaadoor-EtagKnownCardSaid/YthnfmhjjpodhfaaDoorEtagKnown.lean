/- EtagKnown: the walk of the law (printed by wip/tools/known14.py). -/
import Derived.Test.YthnfmhjjpodhfaaDoorEtagAsk
import Derived.Test.YthnfmhjjpodhfaaDoorDEnv
namespace Go.Proofs.YthnfmhjjpodhfaaDoor
open Go.RowKit
set_option maxRecDepth 100000

def D2000 : ByteArray := ⟨(dputL 2000).toArray⟩
def D1000 : ByteArray := ⟨(dputL 1000).toArray⟩
def D999 : ByteArray := ⟨(dputL 999).toArray⟩
def D253402300799 : ByteArray := ⟨(dputL 253402300799).toArray⟩
theorem ek0 (w : World) : Calls Tryd.prog 5 #[] w fun e w' => e = .returned (.bool true) ∧ Below w.heap.size w w' := by
  exact works_any w
theorem ek1 (w : World) : Calls Tryd.prog 15 #[.string ⟨#[34, 97, 34]⟩, .bool false, .string ⟨#[97]⟩] w fun e w' => e = .returned (.bool true) ∧ Below w.heap.size w w' := by
  exact reads14_any ⟨#[34, 97, 34]⟩ false ⟨#[97]⟩ w (by decide) (by kernel_rfl)
theorem ek2 (w : World) : Calls Tryd.prog 15 #[.string ⟨#[34, 34]⟩, .bool false, .string ⟨#[]⟩] w fun e w' => e = .returned (.bool true) ∧ Below w.heap.size w w' := by
  exact reads14_any ⟨#[34, 34]⟩ false ⟨#[]⟩ w (by decide) (by kernel_rfl)
theorem ek3 (w : World) : Calls Tryd.prog 16 #[.string ⟨#[119, 47, 34, 97, 34]⟩] w fun e w' => e = .returned (.bool true) ∧ Below w.heap.size w w' := by
  exact no14_any ⟨#[119, 47, 34, 97, 34]⟩ w (by decide) (by kernel_rfl)
theorem ek4 (w : World) : Calls Tryd.prog 16 #[.string ⟨#[34, 97, 34, 34]⟩] w fun e w' => e = .returned (.bool true) ∧ Below w.heap.size w w' := by
  exact no14_any ⟨#[34, 97, 34, 34]⟩ w (by decide) (by kernel_rfl)
theorem ek5 (w : World) : Calls Tryd.prog 16 #[.string ⟨#[34, 97, 32, 98, 34]⟩] w fun e w' => e = .returned (.bool true) ∧ Below w.heap.size w w' := by
  exact no14_any ⟨#[34, 97, 32, 98, 34]⟩ w (by decide) (by kernel_rfl)
theorem ek6 (w : World) : Calls Tryd.prog 16 #[.string ⟨#[]⟩] w fun e w' => e = .returned (.bool true) ∧ Below w.heap.size w w' := by
  exact no14_any ⟨#[]⟩ w (by decide) (by kernel_rfl)
theorem ek7 (w : World) : Calls Tryd.prog 16 #[.string ⟨#[34]⟩] w fun e w' => e = .returned (.bool true) ∧ Below w.heap.size w w' := by
  exact no14_any ⟨#[34]⟩ w (by decide) (by kernel_rfl)
theorem ek8 (w : World) : Calls Tryd.prog 16 #[.string ⟨#[87, 47]⟩] w fun e w' => e = .returned (.bool true) ∧ Below w.heap.size w w' := by
  exact no14_any ⟨#[87, 47]⟩ w (by decide) (by kernel_rfl)
theorem ek9 (w : World) : Calls Tryd.prog 16 #[.string ⟨#[34, 127, 34]⟩] w fun e w' => e = .returned (.bool true) ∧ Below w.heap.size w w' := by
  exact no14_any ⟨#[34, 127, 34]⟩ w (by decide) (by kernel_rfl)
theorem ek10 (w : World) : Calls Tryd.prog 15 #[.string ⟨#[34, 128, 39, 34]⟩, .bool false, .string ⟨#[128, 39]⟩] w fun e w' => e = .returned (.bool true) ∧ Below w.heap.size w w' := by
  exact reads14_any ⟨#[34, 128, 39, 34]⟩ false ⟨#[128, 39]⟩ w (by decide) (by kernel_rfl)
theorem ek11 (w : World) : Calls Tryd.prog 11 #[.string ⟨#[34, 97, 34]⟩, .string ⟨#[34, 98, 34]⟩] w fun e w' => e = .returned (.bool false) ∧ Below w.heap.size w w' := by
  have k := strong_any ⟨#[34, 97, 34]⟩ ⟨#[34, 98, 34]⟩ w (by decide) (by decide)
  rw [show (ent ⟨#[34, 97, 34]⟩).sure (ent ⟨#[34, 98, 34]⟩) = false from by kernel_rfl] at k
  exact k
theorem ek12 (w : World) : Calls Tryd.prog 13 #[.string ⟨#[34, 97, 34]⟩, .string ⟨#[34, 98, 34]⟩] w fun e w' => e = .returned (.bool false) ∧ Below w.heap.size w w' := by
  have k := weak_any ⟨#[34, 97, 34]⟩ ⟨#[34, 98, 34]⟩ w (by decide) (by decide)
  rw [show (ent ⟨#[34, 97, 34]⟩).same (ent ⟨#[34, 98, 34]⟩) = false from by kernel_rfl] at k
  exact k
theorem ek13 (w : World) : Calls Tryd.prog 11 #[.string ⟨#[97]⟩, .string ⟨#[97]⟩] w fun e w' => e = .returned (.bool false) ∧ Below w.heap.size w w' := by
  have k := strong_any ⟨#[97]⟩ ⟨#[97]⟩ w (by decide) (by decide)
  rw [show (ent ⟨#[97]⟩).sure (ent ⟨#[97]⟩) = false from by kernel_rfl] at k
  exact k
theorem ek14 (w : World) : Calls Tryd.prog 13 #[.string ⟨#[97]⟩, .string ⟨#[97]⟩] w fun e w' => e = .returned (.bool false) ∧ Below w.heap.size w w' := by
  have k := weak_any ⟨#[97]⟩ ⟨#[97]⟩ w (by decide) (by decide)
  rw [show (ent ⟨#[97]⟩).same (ent ⟨#[97]⟩) = false from by kernel_rfl] at k
  exact k
theorem ek15 (w : World) : Calls Tryd.prog 8 #[.string ⟨#[34, 97, 34, 44, 32, 87, 47, 34, 98, 44, 99, 34]⟩] w fun e w' => ∃ g c, e = .returned (.tuple #[.slice (some ⟨g, 0, none⟩) 2 c, .int .i64 0]) ∧ w'.cell? ⟨g, 1, none⟩ = some (.string ⟨#[87, 47, 34, 98, 44, 99, 34]⟩) ∧ g < w'.heap.size ∧ Below w.heap.size w w' := by
  have k := elist_any ⟨#[34, 97, 34, 44, 32, 87, 47, 34, 98, 44, 99, 34]⟩ w (by decide)
  rw [show etagL ((⟨#[34, 97, 34, 44, 32, 87, 47, 34, 98, 44, 99, 34]⟩ : ByteArray).data.toList) = ([[34, 97, 34], [87, 47, 34, 98, 44, 99, 34]], 0) from by kernel_rfl] at k
  refine k.mono ?_
  rintro e w' ⟨a, c, rfl, ho, hb⟩
  obtain ⟨g, rfl, hc, _⟩ := ho.cell 1 (by decide)
  exact ⟨g, c, rfl, hc, World.block_lt_of_cell? w' _ hc, hb⟩
theorem ek16 (w : World) : Calls Tryd.prog 8 #[.string ⟨#[]⟩] w fun e w' => ∃ a c, e = .returned (.tuple #[.slice a 0 c, .int .i64 4]) ∧ Below w.heap.size w w' := by
  have k := elist_any ⟨#[]⟩ w (by decide)
  rw [show etagL ((⟨#[]⟩ : ByteArray).data.toList) = ([], 4) from by kernel_rfl] at k
  refine k.mono ?_
  rintro e w' ⟨a, c, rfl, ho, hb⟩
  exact ⟨a, c, rfl, hb⟩
theorem ek17 (w : World) : Calls Tryd.prog 8 #[.string ⟨#[42]⟩] w fun e w' => ∃ a c, e = .returned (.tuple #[.slice a 0 c, .int .i64 4]) ∧ Below w.heap.size w w' := by
  have k := elist_any ⟨#[42]⟩ w (by decide)
  rw [show etagL ((⟨#[42]⟩ : ByteArray).data.toList) = ([], 4) from by kernel_rfl] at k
  refine k.mono ?_
  rintro e w' ⟨a, c, rfl, ho, hb⟩
  exact ⟨a, c, rfl, hb⟩
theorem ek18 (w : World) : Calls Tryd.prog 8 #[.string ⟨#[34, 97, 34, 32, 98]⟩] w fun e w' => ∃ a c, e = .returned (.tuple #[.slice a 0 c, .int .i64 4]) ∧ Below w.heap.size w w' := by
  have k := elist_any ⟨#[34, 97, 34, 32, 98]⟩ w (by decide)
  rw [show etagL ((⟨#[34, 97, 34, 32, 98]⟩ : ByteArray).data.toList) = ([], 4) from by kernel_rfl] at k
  refine k.mono ?_
  rintro e w' ⟨a, c, rfl, ho, hb⟩
  exact ⟨a, c, rfl, hb⟩
theorem ek19 (w : World) (hE : DEnv w) : Calls Tryd.prog 17 #[.string ⟨#[73, 102, 45, 78, 111, 110, 101, 45, 77, 97, 116, 99, 104]⟩, .string ⟨#[42]⟩] w fun e w' => e = .returned (.bool true) ∧ Below w.heap.size w w' := by
  exact asks14_any ⟨#[73, 102, 45, 78, 111, 110, 101, 45, 77, 97, 116, 99, 104]⟩ ⟨#[42]⟩ true w hE (by decide) (by decide) (by kernel_rfl)
theorem ek20 (w : World) (hE : DEnv w) : Calls Tryd.prog 17 #[.string ⟨#[105, 102, 45, 110, 111, 110, 101, 45, 109, 97, 116, 99, 104]⟩, .string ⟨#[87, 47, 34, 97, 34, 44, 32, 34, 98, 34]⟩] w fun e w' => e = .returned (.bool true) ∧ Below w.heap.size w w' := by
  exact asks14_any ⟨#[105, 102, 45, 110, 111, 110, 101, 45, 109, 97, 116, 99, 104]⟩ ⟨#[87, 47, 34, 97, 34, 44, 32, 34, 98, 34]⟩ true w hE (by decide) (by decide) (by kernel_rfl)
theorem ek21 (w : World) (hE : DEnv w) : Calls Tryd.prog 17 #[.string ⟨#[73, 102, 45, 78, 111, 110, 101, 45, 77, 97, 116, 99, 104]⟩, .string ⟨#[34, 98, 34]⟩] w fun e w' => e = .returned (.bool false) ∧ Below w.heap.size w w' := by
  exact asks14_any ⟨#[73, 102, 45, 78, 111, 110, 101, 45, 77, 97, 116, 99, 104]⟩ ⟨#[34, 98, 34]⟩ false w hE (by decide) (by decide) (by kernel_rfl)
theorem ek22 (w : World) (hE : DEnv w) : Calls Tryd.prog 17 #[.string ⟨#[73, 102, 45, 78, 111, 110, 101, 45, 77, 97, 116, 99, 104]⟩, .string ⟨#[34, 97, 34, 44, 32, 98]⟩] w fun e w' => e = .returned (.bool false) ∧ Below w.heap.size w w' := by
  exact asks14_any ⟨#[73, 102, 45, 78, 111, 110, 101, 45, 77, 97, 116, 99, 104]⟩ ⟨#[34, 97, 34, 44, 32, 98]⟩ false w hE (by decide) (by decide) (by kernel_rfl)
theorem ek23 (w : World) (hE : DEnv w) : Calls Tryd.prog 17 #[.string ⟨#[73, 102, 45, 78, 111, 110, 101, 45, 77, 97, 116, 99, 104]⟩, .string ⟨#[]⟩] w fun e w' => e = .returned (.bool false) ∧ Below w.heap.size w w' := by
  exact asks14_any ⟨#[73, 102, 45, 78, 111, 110, 101, 45, 77, 97, 116, 99, 104]⟩ ⟨#[]⟩ false w hE (by decide) (by decide) (by kernel_rfl)
theorem ek24 (w : World) (hE : DEnv w) : Calls Tryd.prog 18 #[.int .i64 2000] w fun e w' => e = .returned (.string D2000) ∧ Below w.heap.size w w' := by
  exact dput_any 2000 w hE
theorem ekP (w : World) (hE : DEnv w) : Calls Tryd.prog 18 #[.int .i64 1000] w fun e w' => e = .returned (.string D1000) ∧ Below w.heap.size w w' := dput_any 1000 w hE
def bothF : List Fld := [([73, 102, 45, 78, 111, 110, 101, 45, 77, 97, 116, 99, 104], [34, 98, 34]), ([73, 102, 45, 77, 111, 100, 105, 102, 105, 101, 100, 45, 83, 105, 110, 99, 101], dputL 2000)]
theorem ekN (A B : Option Addr) (c d : Nat) (w : World) (hE : DEnv w) (hr : Rd A 2 2 (fldsV bothF) w) (hq : Rd B 2 2 (fldsV repF) w) : Calls Tryd.prog 19 #[.slice A 2 c, .agg #[.int .i64 200, .string ⟨#[]⟩, .int .i64 0, .slice B 2 d, .string ⟨#[]⟩], .int .i64 5000] w fun e w' => e = .returned (.bool false) ∧ Below w.heap.size w w' := by
  have k := notMod_any A B 2 c 2 d 200 0 ⟨#[]⟩ ⟨#[]⟩ bothF repF 5000 w hE hr hq (by decide) (by decide) (of_decide_eq_true (by kernel_rfl)) (of_decide_eq_true (by kernel_rfl))
  rw [show notModL bothF repF 5000 = false from by kernel_rfl] at k
  exact k
theorem ek25 (w : World) (hE : DEnv w) : Calls Tryd.prog 18 #[.int .i64 1000] w fun e w' => e = .returned (.string D1000) ∧ Below w.heap.size w w' := by
  exact dput_any 1000 w hE
theorem ek26 (w : World) (hE : DEnv w) : Calls Tryd.prog 17 #[.string ⟨#[73, 102, 45, 77, 111, 100, 105, 102, 105, 101, 100, 45, 83, 105, 110, 99, 101]⟩, .string D1000] w fun e w' => e = .returned (.bool true) ∧ Below w.heap.size w w' := by
  exact asks14_any ⟨#[73, 102, 45, 77, 111, 100, 105, 102, 105, 101, 100, 45, 83, 105, 110, 99, 101]⟩ D1000 true w hE (by decide) (of_decide_eq_true (by kernel_rfl)) (by kernel_rfl)
theorem ek27 (w : World) (hE : DEnv w) : Calls Tryd.prog 18 #[.int .i64 999] w fun e w' => e = .returned (.string D999) ∧ Below w.heap.size w w' := by
  exact dput_any 999 w hE
theorem ek28 (w : World) (hE : DEnv w) : Calls Tryd.prog 17 #[.string ⟨#[73, 102, 45, 77, 111, 100, 105, 102, 105, 101, 100, 45, 83, 105, 110, 99, 101]⟩, .string D999] w fun e w' => e = .returned (.bool false) ∧ Below w.heap.size w w' := by
  exact asks14_any ⟨#[73, 102, 45, 77, 111, 100, 105, 102, 105, 101, 100, 45, 83, 105, 110, 99, 101]⟩ D999 false w hE (by decide) (of_decide_eq_true (by kernel_rfl)) (by kernel_rfl)
theorem ek29 (w : World) (hE : DEnv w) : Calls Tryd.prog 18 #[.int .i64 253402300799] w fun e w' => e = .returned (.string D253402300799) ∧ Below w.heap.size w w' := by
  exact dput_any 253402300799 w hE
theorem ek30 (w : World) (hE : DEnv w) : Calls Tryd.prog 17 #[.string ⟨#[73, 102, 45, 77, 111, 100, 105, 102, 105, 101, 100, 45, 83, 105, 110, 99, 101]⟩, .string D253402300799] w fun e w' => e = .returned (.bool true) ∧ Below w.heap.size w w' := by
  exact asks14_any ⟨#[73, 102, 45, 77, 111, 100, 105, 102, 105, 101, 100, 45, 83, 105, 110, 99, 101]⟩ D253402300799 true w hE (by decide) (of_decide_eq_true (by kernel_rfl)) (by kernel_rfl)
theorem ek31 (w : World) (hE : DEnv w) : Calls Tryd.prog 17 #[.string ⟨#[73, 102, 45, 77, 111, 100, 105, 102, 105, 101, 100, 45, 83, 105, 110, 99, 101]⟩, .string ⟨#[120]⟩] w fun e w' => e = .returned (.bool false) ∧ Below w.heap.size w w' := by
  exact asks14_any ⟨#[73, 102, 45, 77, 111, 100, 105, 102, 105, 101, 100, 45, 83, 105, 110, 99, 101]⟩ ⟨#[120]⟩ false w hE (by decide) (by decide) (by kernel_rfl)
theorem ek32 (w : World) (hE : DEnv w) : Calls Tryd.prog 17 #[.string ⟨#[88]⟩, .string ⟨#[42]⟩] w fun e w' => e = .returned (.bool false) ∧ Below w.heap.size w w' := by
  exact asks14_any ⟨#[88]⟩ ⟨#[42]⟩ false w hE (by decide) (by decide) (by kernel_rfl)
theorem ek33 (w : World) : Calls Tryd.prog 5 #[] w fun e w' => e = .returned (.bool true) ∧ Below w.heap.size w w' := by
  exact works_any w
set_option maxHeartbeats 32000000 in
theorem etagKnown_any (w0 : World) (hE : DEnv w0) :
    Calls Tryd.prog 4 #[] w0 fun e w' => e = .returned (.bool true) ∧ Below w0.heap.size w0 w' := by
  have HB0 := Lib.hid (Below.refl w0.heap.size w0)
  go_enter Tryd.func4, Tryd.ntmps4
  have kk := ek0 w0
  have KK := Lib.hid kk
  clear kk
  go_wp2_with fail
  (with_reducible refine KK.out.mono ?_)
  rintro e w1 ⟨rfl, hb⟩
  have HB1 := Lib.hid (bt HB0.out hb)
  clear hb KK HB0
  have kk := ek1 w1
  have KK := Lib.hid kk
  clear kk
  go_wp2_with fail
  (with_reducible refine KK.out.mono ?_)
  rintro e w2 ⟨rfl, hb⟩
  have HB2 := Lib.hid (bt HB1.out hb)
  clear hb KK HB1
  have kk := ek2 w2
  have KK := Lib.hid kk
  clear kk
  go_wp2_with fail
  (with_reducible refine KK.out.mono ?_)
  rintro e w3 ⟨rfl, hb⟩
  have HB3 := Lib.hid (bt HB2.out hb)
  clear hb KK HB2
  have kk := ek3 w3
  have KK := Lib.hid kk
  clear kk
  go_wp2_with fail
  (with_reducible refine KK.out.mono ?_)
  rintro e w4 ⟨rfl, hb⟩
  have HB4 := Lib.hid (bt HB3.out hb)
  clear hb KK HB3
  have kk := ek4 w4
  have KK := Lib.hid kk
  clear kk
  go_wp2_with fail
  (with_reducible refine KK.out.mono ?_)
  rintro e w5 ⟨rfl, hb⟩
  have HB5 := Lib.hid (bt HB4.out hb)
  clear hb KK HB4
  have kk := ek5 w5
  have KK := Lib.hid kk
  clear kk
  go_wp2_with fail
  (with_reducible refine KK.out.mono ?_)
  rintro e w6 ⟨rfl, hb⟩
  have HB6 := Lib.hid (bt HB5.out hb)
  clear hb KK HB5
  have kk := ek6 w6
  have KK := Lib.hid kk
  clear kk
  go_wp2_with fail
  (with_reducible refine KK.out.mono ?_)
  rintro e w7 ⟨rfl, hb⟩
  have HB7 := Lib.hid (bt HB6.out hb)
  clear hb KK HB6
  have kk := ek7 w7
  have KK := Lib.hid kk
  clear kk
  go_wp2_with fail
  (with_reducible refine KK.out.mono ?_)
  rintro e w8 ⟨rfl, hb⟩
  have HB8 := Lib.hid (bt HB7.out hb)
  clear hb KK HB7
  have kk := ek8 w8
  have KK := Lib.hid kk
  clear kk
  go_wp2_with fail
  (with_reducible refine KK.out.mono ?_)
  rintro e w9 ⟨rfl, hb⟩
  have HB9 := Lib.hid (bt HB8.out hb)
  clear hb KK HB8
  have kk := ek9 w9
  have KK := Lib.hid kk
  clear kk
  go_wp2_with fail
  (with_reducible refine KK.out.mono ?_)
  rintro e w10 ⟨rfl, hb⟩
  have HB10 := Lib.hid (bt HB9.out hb)
  clear hb KK HB9
  have kk := ek10 w10
  have KK := Lib.hid kk
  clear kk
  go_wp2_with fail
  (with_reducible refine KK.out.mono ?_)
  rintro e w11 ⟨rfl, hb⟩
  have HB11 := Lib.hid (bt HB10.out hb)
  clear hb KK HB10
  have kk := ek11 w11
  have KK := Lib.hid kk
  clear kk
  go_wp2_with fail
  (with_reducible refine KK.out.mono ?_)
  rintro e w12 ⟨rfl, hb⟩
  have HB12 := Lib.hid (bt HB11.out hb)
  clear hb KK HB11
  have kk := ek12 w12
  have KK := Lib.hid kk
  clear kk
  go_wp2_with fail
  (with_reducible refine KK.out.mono ?_)
  rintro e w13 ⟨rfl, hb⟩
  have HB13 := Lib.hid (bt HB12.out hb)
  clear hb KK HB12
  have kk := ek13 w13
  have KK := Lib.hid kk
  clear kk
  go_wp2_with fail
  (with_reducible refine KK.out.mono ?_)
  rintro e w14 ⟨rfl, hb⟩
  have HB14 := Lib.hid (bt HB13.out hb)
  clear hb KK HB13
  have kk := ek14 w14
  have KK := Lib.hid kk
  clear kk
  go_wp2_with fail
  (with_reducible refine KK.out.mono ?_)
  rintro e w15 ⟨rfl, hb⟩
  have HB15 := Lib.hid (bt HB14.out hb)
  clear hb KK HB14
  have kk := ek15 w15
  have KK := Lib.hid kk
  clear kk
  go_wp2_with fail
  (with_reducible refine KK.out.mono ?_)
  rintro e w16 ⟨g, c, rfl, hrow, hgl, hb⟩
  have HB16 := Lib.hid (bt HB15.out hb)
  clear hb KK HB15
  have kk := ek16 w16
  have KK := Lib.hid kk
  clear kk
  go_wp2_with fail
  (with_reducible refine KK.out.mono ?_)
  rintro e w17 ⟨a17, c17, rfl, hb⟩
  have hrow := (hb.cell (p := ⟨g, 1, none⟩) hgl).trans hrow
  have hgl := Nat.lt_of_lt_of_le hgl hb.size
  have HB17 := Lib.hid (bt HB16.out hb)
  clear hb KK HB16
  have kk := ek17 w17
  have KK := Lib.hid kk
  clear kk
  go_wp2_with fail
  (with_reducible refine KK.out.mono ?_)
  rintro e w18 ⟨a18, c18, rfl, hb⟩
  have hrow := (hb.cell (p := ⟨g, 1, none⟩) hgl).trans hrow
  have hgl := Nat.lt_of_lt_of_le hgl hb.size
  have HB18 := Lib.hid (bt HB17.out hb)
  clear hb KK HB17
  have kk := ek18 w18
  have KK := Lib.hid kk
  clear kk
  go_wp2_with fail
  (with_reducible refine KK.out.mono ?_)
  rintro e w19 ⟨a19, c19, rfl, hb⟩
  have hrow := (hb.cell (p := ⟨g, 1, none⟩) hgl).trans hrow
  have hgl := Nat.lt_of_lt_of_le hgl hb.size
  have HB19 := Lib.hid (bt HB18.out hb)
  clear hb KK HB18
  have kk := ek19 w19 (hE.below HB19.out)
  have KK := Lib.hid kk
  clear kk
  go_wp2_with fail
  (with_reducible refine KK.out.mono ?_)
  rintro e w20 ⟨rfl, hb⟩
  have HB20 := Lib.hid (bt HB19.out hb)
  clear hb KK HB19
  have kk := ek20 w20 (hE.below HB20.out)
  have KK := Lib.hid kk
  clear kk
  go_wp2_with fail
  (with_reducible refine KK.out.mono ?_)
  rintro e w21 ⟨rfl, hb⟩
  have HB21 := Lib.hid (bt HB20.out hb)
  clear hb KK HB20
  have kk := ek21 w21 (hE.below HB21.out)
  have KK := Lib.hid kk
  clear kk
  go_wp2_with fail
  (with_reducible refine KK.out.mono ?_)
  rintro e w22 ⟨rfl, hb⟩
  have HB22 := Lib.hid (bt HB21.out hb)
  clear hb KK HB21
  have kk := ek22 w22 (hE.below HB22.out)
  have KK := Lib.hid kk
  clear kk
  go_wp2_with fail
  (with_reducible refine KK.out.mono ?_)
  rintro e w23 ⟨rfl, hb⟩
  have HB23 := Lib.hid (bt HB22.out hb)
  clear hb KK HB22
  have kk := ek23 w23 (hE.below HB23.out)
  have KK := Lib.hid kk
  clear kk
  go_wp2_with fail
  (with_reducible refine KK.out.mono ?_)
  rintro e w24 ⟨rfl, hb⟩
  have HB24 := Lib.hid (bt HB23.out hb)
  clear hb KK HB23
  have kk := ek24 w24 (hE.below HB24.out)
  have KK := Lib.hid kk
  clear kk
  go_wp2_with fail
  (with_reducible refine KK.out.mono ?_)
  rintro e w25 ⟨rfl, hb⟩
  have HB25 := Lib.hid (bt HB24.out hb)
  clear hb KK HB24
  obtain ⟨X1, hX1⟩ : ∃ X, w25.alloc (.cells #[.string ⟨#[73, 102, 45, 78, 111, 110, 101, 45, 77, 97, 116, 99, 104]⟩, .string ⟨#[34, 98, 34]⟩, .string ⟨#[73, 102, 45, 77, 111, 100, 105, 102, 105, 101, 100, 45, 83, 105, 110, 99, 101]⟩, .string D2000] 38) = X := ⟨_, rfl⟩
  have q1 : Rd (some ⟨w25.heap.size, 0, none⟩) 2 2 (fldsV bothF) X1 := by rw [← hX1]; exact Rd.newFs w25 bothF 38
  have a1 : Below w25.heap.size w25 X1 := by rw [← hX1]; exact (Below.refl w25.heap.size w25).alloc (Nat.le_refl _) _
  have HBX := Lib.hid (bt HB25.out a1)
  have HX1 := Lib.hid hX1
  have kk := ekP X1 (hE.below HBX.out)
  have KK := Lib.hid kk
  clear kk a1 hX1
  go_wp2_with fail
  rw [HX1.out]
  (with_reducible refine KK.out.mono ?_)
  rintro e w26 ⟨rfl, hb⟩
  have HB26 := Lib.hid (bt HBX.out hb)
  have q2 := q1.below hb
  clear hb KK HB25 HBX q1
  obtain ⟨X2, hX2⟩ : ∃ X, w26.alloc (.cells #[.string ⟨#[69, 84, 97, 103]⟩, .string ⟨#[34, 97, 34]⟩, .string ⟨#[76, 97, 115, 116, 45, 77, 111, 100, 105, 102, 105, 101, 100]⟩, .string D1000] 38) = X := ⟨_, rfl⟩
  have q3 : Rd (some ⟨w26.heap.size, 0, none⟩) 2 2 (fldsV repF) X2 := by rw [← hX2]; exact Rd.newFs w26 repF 38
  have a2 : Below w26.heap.size w26 X2 := by rw [← hX2]; exact (Below.refl w26.heap.size w26).alloc (Nat.le_refl _) _
  have e2 : X2.heap.size = w26.heap.size + 1 := by rw [← hX2]; simp
  have q2 := q2.below a2
  obtain ⟨X3, hX3⟩ : ∃ X, X2.alloc (.cells #[.int .i64 200, .string ⟨#[]⟩, .int .i64 0, .slice (some ⟨w26.heap.size, 0, none⟩) 2 2, .string ⟨#[]⟩] 42) = X := ⟨_, rfl⟩
  have a3 : Below X2.heap.size X2 X3 := by rw [← hX3]; exact (Below.refl X2.heap.size X2).alloc (Nat.le_refl _) _
  have q2 := q2.below a3
  have q3 := q3.below a3
  have HBX := Lib.hid (bt (bt HB26.out a2) a3)
  have kk := ekN _ _ 2 2 X3 (hE.below HBX.out) q2 q3
  rw [← hX2] at hX3
  have HX3 := Lib.hid hX3
  have KK := Lib.hid kk
  clear kk a3 a2 hX2 hX3 q2 q3 e2 HB26
  go_wp2_with fail
  rw [HX3.out]
  (with_reducible refine KK.out.mono ?_)
  rintro e w27 ⟨rfl, hb⟩
  have HB27 := Lib.hid (bt HBX.out hb)
  clear hb KK HBX
  have kk := ek25 w27 (hE.below HB27.out)
  have KK := Lib.hid kk
  clear kk
  go_wp2_with fail
  (with_reducible refine KK.out.mono ?_)
  rintro e w28 ⟨rfl, hb⟩
  have HB28 := Lib.hid (bt HB27.out hb)
  clear hb KK HB27
  have kk := ek26 w28 (hE.below HB28.out)
  have KK := Lib.hid kk
  clear kk
  go_wp2_with fail
  (with_reducible refine KK.out.mono ?_)
  rintro e w29 ⟨rfl, hb⟩
  have HB29 := Lib.hid (bt HB28.out hb)
  clear hb KK HB28
  have kk := ek27 w29 (hE.below HB29.out)
  have KK := Lib.hid kk
  clear kk
  go_wp2_with fail
  (with_reducible refine KK.out.mono ?_)
  rintro e w30 ⟨rfl, hb⟩
  have HB30 := Lib.hid (bt HB29.out hb)
  clear hb KK HB29
  have kk := ek28 w30 (hE.below HB30.out)
  have KK := Lib.hid kk
  clear kk
  go_wp2_with fail
  (with_reducible refine KK.out.mono ?_)
  rintro e w31 ⟨rfl, hb⟩
  have HB31 := Lib.hid (bt HB30.out hb)
  clear hb KK HB30
  have kk := ek29 w31 (hE.below HB31.out)
  have KK := Lib.hid kk
  clear kk
  go_wp2_with fail
  (with_reducible refine KK.out.mono ?_)
  rintro e w32 ⟨rfl, hb⟩
  have HB32 := Lib.hid (bt HB31.out hb)
  clear hb KK HB31
  have kk := ek30 w32 (hE.below HB32.out)
  have KK := Lib.hid kk
  clear kk
  go_wp2_with fail
  (with_reducible refine KK.out.mono ?_)
  rintro e w33 ⟨rfl, hb⟩
  have HB33 := Lib.hid (bt HB32.out hb)
  clear hb KK HB32
  have kk := ek31 w33 (hE.below HB33.out)
  have KK := Lib.hid kk
  clear kk
  go_wp2_with fail
  (with_reducible refine KK.out.mono ?_)
  rintro e w34 ⟨rfl, hb⟩
  have HB34 := Lib.hid (bt HB33.out hb)
  clear hb KK HB33
  have kk := ek32 w34 (hE.below HB34.out)
  have KK := Lib.hid kk
  clear kk
  go_wp2_with fail
  (with_reducible refine KK.out.mono ?_)
  rintro e w35 ⟨rfl, hb⟩
  have HB35 := Lib.hid (bt HB34.out hb)
  clear hb KK HB34
  have kk := ek33 w35
  have KK := Lib.hid kk
  clear kk
  go_wp2_with fail
  (with_reducible refine KK.out.mono ?_)
  rintro e w36 ⟨rfl, hb⟩
  have HB36 := Lib.hid (bt HB35.out hb)
  clear hb KK HB35
  go_wp2
  go_ret
  exact ⟨rfl, HB36.out⟩
end Go.Proofs.YthnfmhjjpodhfaaDoor
