/- Joined out of the texts RefreshKnown (wip/tools/merge.py). -/
import Derived.Test.YtgmmjhcklhajiaaDoorPa4
/- RefreshKnown: the walk of the law (printed by wip/tools/known20.py). -/
namespace Go.Proofs.YtgmmjhcklhajiaaDoor
open Go.RowKit
set_option maxRecDepth 100000

theorem ok100 (w : World) : Calls Tryd.prog 14 #[.slice (some ⟨w.heap.size, 0, none⟩) 6 6] (w.alloc (.cells #[.string ⟨#[65]⟩, .string ⟨#[49]⟩, .string ⟨#[65, 103, 101]⟩, .string ⟨#[53]⟩, .string ⟨#[69, 84, 97, 103]⟩, .string ⟨#[34, 97, 34]⟩] 9)) fun e w' => ∃ a c, e = .returned (.agg #[.int .i64 200, .string ⟨#[79, 75]⟩, .int .i64 1, .slice a 3 c, .string ⟨#[98]⟩, .int .i64 0, .int .i64 0, .slice none 0 0]) ∧ Rd a 3 2 (fldsV [([65], [49]), ([65, 103, 101], [53]), ([69, 84, 97, 103], [34, 97, 34])]) w' ∧ Below w.heap.size w w' :=
  of20_new [([65], [49]), ([65, 103, 101], [53]), ([69, 84, 97, 103], [34, 97, 34])] 6 rfl w (by decide)
theorem ok101 (w : World) : Calls Tryd.prog 14 #[.slice (some ⟨w.heap.size, 0, none⟩) 10 10] (w.alloc (.cells #[.string ⟨#[97]⟩, .string ⟨#[50]⟩, .string ⟨#[68, 97, 116, 101]⟩, .string ⟨#[100]⟩, .string ⟨#[67, 111, 110, 116, 101, 110, 116, 45, 76, 101, 110, 103, 116, 104]⟩, .string ⟨#[57]⟩, .string ⟨#[67, 111, 110, 110, 101, 99, 116, 105, 111, 110]⟩, .string ⟨#[120]⟩, .string ⟨#[88]⟩, .string ⟨#[49]⟩] 9)) fun e w' => ∃ a c, e = .returned (.agg #[.int .i64 200, .string ⟨#[79, 75]⟩, .int .i64 1, .slice a 5 c, .string ⟨#[98]⟩, .int .i64 0, .int .i64 0, .slice none 0 0]) ∧ Rd a 5 2 (fldsV [([97], [50]), ([68, 97, 116, 101], [100]), ([67, 111, 110, 116, 101, 110, 116, 45, 76, 101, 110, 103, 116, 104], [57]), ([67, 111, 110, 110, 101, 99, 116, 105, 111, 110], [120]), ([88], [49])]) w' ∧ Below w.heap.size w w' :=
  of20_new [([97], [50]), ([68, 97, 116, 101], [100]), ([67, 111, 110, 116, 101, 110, 116, 45, 76, 101, 110, 103, 116, 104], [57]), ([67, 111, 110, 110, 101, 99, 116, 105, 111, 110], [120]), ([88], [49])] 10 rfl w (by decide)
theorem ok102 (a b : Option Addr) (c d : Nat) (w : World) (hr : Rd a 3 2 (fldsV [([65], [49]), ([65, 103, 101], [53]), ([69, 84, 97, 103], [34, 97, 34])]) w) (hq : Rd b 5 2 (fldsV [([97], [50]), ([68, 97, 116, 101], [100]), ([67, 111, 110, 116, 101, 110, 116, 45, 76, 101, 110, 103, 116, 104], [57]), ([67, 111, 110, 110, 101, 99, 116, 105, 111, 110], [120]), ([88], [49])]) w) : Calls Tryd.prog 7 #[.agg #[.int .i64 200, .string ⟨#[79, 75]⟩, .int .i64 1, .slice a 3 c, .string ⟨#[98]⟩, .int .i64 0, .int .i64 0, .slice none 0 0], .agg #[.int .i64 200, .string ⟨#[79, 75]⟩, .int .i64 1, .slice b 5 d, .string ⟨#[98]⟩], .int .i64 3, .int .i64 4] w fun e w' => ∃ a c b d, e = .returned (.agg #[.int .i64 200, .string ⟨#[79, 75]⟩, .int .i64 1, .slice a 3 c, .string ⟨#[98]⟩, .int .i64 3, .int .i64 4, .slice b 0 d]) ∧ Rd a 3 2 (fldsV [([69, 84, 97, 103], [34, 97, 34]), ([97], [50]), ([68, 97, 116, 101], [100])]) w' ∧ Below w.heap.size w w' := by
  have k := with_any 200 1 0 0 200 1 3 4 ⟨#[79, 75]⟩ ⟨#[98]⟩ ⟨#[79, 75]⟩ ⟨#[98]⟩ a none b 3 c 0 0 5 d [([65], [49]), ([65, 103, 101], [53]), ([69, 84, 97, 103], [34, 97, 34])] [] [([97], [50]), ([68, 97, 116, 101], [100]), ([67, 111, 110, 116, 101, 110, 116, 45, 76, 101, 110, 103, 116, 104], [57]), ([67, 111, 110, 110, 101, 99, 116, 105, 111, 110], [120]), ([88], [49])] w hr Rd.nil hq (by decide) (by decide) (by decide) (by decide) (by decide)
  rw [show withL [([65], [49]), ([65, 103, 101], [53]), ([69, 84, 97, 103], [34, 97, 34])] [([97], [50]), ([68, 97, 116, 101], [100]), ([67, 111, 110, 116, 101, 110, 116, 45, 76, 101, 110, 103, 116, 104], [57]), ([67, 111, 110, 110, 101, 99, 116, 105, 111, 110], [120]), ([88], [49])] = [([69, 84, 97, 103], [34, 97, 34]), ([97], [50]), ([68, 97, 116, 101], [100])] from by kernel_rfl] at k
  refine k.mono ?_
  rintro e w' ⟨a, c, b, d, rfl, ho, _, hb⟩
  exact ⟨a, c, b, d, rfl, ho.rd.2, hb⟩
theorem ok103 (w : World) : Calls Tryd.prog 14 #[.slice (some ⟨w.heap.size, 0, none⟩) 2 2] (w.alloc (.cells #[.string ⟨#[69, 84, 97, 103]⟩, .string ⟨#[97]⟩] 9)) fun e w' => ∃ a c, e = .returned (.agg #[.int .i64 200, .string ⟨#[79, 75]⟩, .int .i64 1, .slice a 1 c, .string ⟨#[98]⟩, .int .i64 0, .int .i64 0, .slice none 0 0]) ∧ Rd a 1 2 (fldsV [([69, 84, 97, 103], [97])]) w' ∧ Below w.heap.size w w' :=
  of20_new [([69, 84, 97, 103], [97])] 2 rfl w (by decide)
theorem ok104 (a : Option Addr) (c : Nat) (w : World) (hE : DEnv w) (hr : Rd a 1 2 (fldsV [([69, 84, 97, 103], [97])]) w) : Calls Tryd.prog 15 #[.agg #[.int .i64 200, .string ⟨#[79, 75]⟩, .int .i64 1, .slice a 1 c, .string ⟨#[98]⟩, .int .i64 0, .int .i64 0, .slice none 0 0]] w fun e w' => ∃ a c, e = .returned (.slice a 0 c) ∧ Rd a 0 2 (fldsV []) w' ∧ Below w.heap.size w w' := by
  have k := ask_any 200 1 0 0 ⟨#[79, 75]⟩ ⟨#[98]⟩ a none 1 c 0 0 [([69, 84, 97, 103], [97])] w hE hr (by decide) (of_decide_eq_true (by kernel_rfl))
  rw [show askL [([69, 84, 97, 103], [97])] 0 = [] from by kernel_rfl] at k
  refine k.mono ?_
  rintro e w' ⟨a, c, rfl, ho, hb⟩
  exact ⟨a, c, rfl, ho.rd.2, hb⟩
theorem ok105 (w : World) : Calls Tryd.prog 14 #[.slice (some ⟨w.heap.size, 0, none⟩) 2 2] (w.alloc (.cells #[.string ⟨#[76, 97, 115, 116, 45, 77, 111, 100, 105, 102, 105, 101, 100]⟩, .string ⟨#[120]⟩] 9)) fun e w' => ∃ a c, e = .returned (.agg #[.int .i64 200, .string ⟨#[79, 75]⟩, .int .i64 1, .slice a 1 c, .string ⟨#[98]⟩, .int .i64 0, .int .i64 0, .slice none 0 0]) ∧ Rd a 1 2 (fldsV [([76, 97, 115, 116, 45, 77, 111, 100, 105, 102, 105, 101, 100], [120])]) w' ∧ Below w.heap.size w w' :=
  of20_new [([76, 97, 115, 116, 45, 77, 111, 100, 105, 102, 105, 101, 100], [120])] 2 rfl w (by decide)
theorem ok106 (a : Option Addr) (c : Nat) (w : World) (hE : DEnv w) (hr : Rd a 1 2 (fldsV [([76, 97, 115, 116, 45, 77, 111, 100, 105, 102, 105, 101, 100], [120])]) w) : Calls Tryd.prog 15 #[.agg #[.int .i64 200, .string ⟨#[79, 75]⟩, .int .i64 1, .slice a 1 c, .string ⟨#[98]⟩, .int .i64 0, .int .i64 0, .slice none 0 0]] w fun e w' => ∃ a c, e = .returned (.slice a 0 c) ∧ Rd a 0 2 (fldsV []) w' ∧ Below w.heap.size w w' := by
  have k := ask_any 200 1 0 0 ⟨#[79, 75]⟩ ⟨#[98]⟩ a none 1 c 0 0 [([76, 97, 115, 116, 45, 77, 111, 100, 105, 102, 105, 101, 100], [120])] w hE hr (by decide) (of_decide_eq_true (by kernel_rfl))
  rw [show askL [([76, 97, 115, 116, 45, 77, 111, 100, 105, 102, 105, 101, 100], [120])] 0 = [] from by kernel_rfl] at k
  refine k.mono ?_
  rintro e w' ⟨a, c, rfl, ho, hb⟩
  exact ⟨a, c, rfl, ho.rd.2, hb⟩
theorem ok107 (a : Option Addr) (c : Nat) (w : World) (hE : DEnv w) (hr : Rd a 0 2 (fldsV []) w) : Calls Tryd.prog 15 #[.agg #[.int .i64 200, .string ⟨#[79, 75]⟩, .int .i64 1, .slice a 0 c, .string ⟨#[98]⟩, .int .i64 0, .int .i64 0, .slice none 0 0]] w fun e w' => ∃ a c, e = .returned (.slice a 0 c) ∧ Rd a 0 2 (fldsV []) w' ∧ Below w.heap.size w w' := by
  have k := ask_any 200 1 0 0 ⟨#[79, 75]⟩ ⟨#[98]⟩ a none 0 c 0 0 [] w hE hr (by decide) (of_decide_eq_true (by kernel_rfl))
  rw [show askL [] 0 = [] from by kernel_rfl] at k
  refine k.mono ?_
  rintro e w' ⟨a, c, rfl, ho, hb⟩
  exact ⟨a, c, rfl, ho.rd.2, hb⟩
theorem ok108 (a : Option Addr) (c : Nat) (w : World) (hr : Rd a 3 2 (fldsV [([69, 84, 97, 103], [34, 97, 34]), ([97], [50]), ([68, 97, 116, 101], [100])]) w) : Calls Tryd.prog 16 #[.slice a 3 c] w fun e w' => e = .returned (.string ⟨#[69, 84, 97, 103, 58, 32, 34, 97, 34, 13, 10, 97, 58, 32, 50, 13, 10, 68, 97, 116, 101, 58, 32, 100, 13, 10]⟩) ∧ Below w.heap.size w w' := by
  have k := put4_any a 3 c [([69, 84, 97, 103], [34, 97, 34]), ([97], [50]), ([68, 97, 116, 101], [100])] w hr (by decide) (by decide)
  rw [show putL [([69, 84, 97, 103], [34, 97, 34]), ([97], [50]), ([68, 97, 116, 101], [100])] = [69, 84, 97, 103, 58, 32, 34, 97, 34, 13, 10, 97, 58, 32, 50, 13, 10, 68, 97, 116, 101, 58, 32, 100, 13, 10] from by kernel_rfl] at k
  exact k
theorem okN (w : World) : Calls Tryd.prog 14 #[.slice none 0 0] w fun e w' => ∃ a c, e = .returned (.agg #[.int .i64 200, .string ⟨#[79, 75]⟩, .int .i64 1, .slice a 0 c, .string ⟨#[98]⟩, .int .i64 0, .int .i64 0, .slice none 0 0]) ∧ Rd a 0 2 (fldsV []) w' ∧ Below w.heap.size w w' := by
  refine (of20_any none 0 0 [] w Rd.nil (by decide)).mono ?_
  rintro e w' ⟨a, c, rfl, ho, hb⟩
  exact ⟨a, c, rfl, ho.rd.2, hb⟩
set_option maxHeartbeats 32000000 in
theorem refreshKnown_any (w0 : World) (hE : DEnv w0) :
    Calls Tryd.prog 4 #[] w0 fun e w' => e = .returned (.bool true) ∧ Below w0.heap.size w0 w' := by
  have HB := Lib.hid (Below.refl w0.heap.size w0)
  go_enter Tryd.func4, Tryd.ntmps4
  have KK := Lib.hid (ok100 w0)
  go_wp2_with fail
  (with_reducible refine KK.out.mono ?_)
  clear KK
  rintro e w1 ⟨a3, c3, rfl, r3, hb⟩
  have HB := Lib.hid (bt HB.out hb); clear hb
  have KK := Lib.hid (ok101 w1)
  go_wp2_with fail
  (with_reducible refine KK.out.mono ?_)
  clear KK
  rintro e w2 ⟨a4, c4, rfl, r4, hb⟩
  have q3 := r3.below hb
  have HB := Lib.hid (bt HB.out hb); clear hb r3
  have hfd : ∀ w : World, (Instr.field 26 (.agg #[.int .i64 200, .string ⟨#[79, 75]⟩, .int .i64 1, .slice a4 5 c4, .string ⟨#[98]⟩, .int .i64 0, .int .i64 0, .slice none 0 0]) 0).run Tryd.prog w = .ok (.agg #[.int .i64 200, .string ⟨#[79, 75]⟩, .int .i64 1, .slice a4 5 c4, .string ⟨#[98]⟩]) w := fun _ => by kernel_rfl
  have KK := Lib.hid (ok102 a3 a4 c3 c4 w2 q3 r4)
  go_wp2_with fail
  (with_reducible refine KK.out.mono ?_)
  clear KK
  rintro e w6 ⟨a5, c5, b5, d5, rfl, r5, hb⟩
  have HB := Lib.hid (bt HB.out hb); clear hb q3 r4
  obtain ⟨W7, hW7⟩ : ∃ W, w6.alloc (.cells #[.int .i64 200, .string ⟨#[79, 75]⟩, .int .i64 1, .slice a5 3 c5, .string ⟨#[98]⟩, .int .i64 3, .int .i64 4, .slice b5 0 d5] 26) = W := ⟨_, rfl⟩
  have b7 : Below w6.heap.size w6 W7 := by rw [← hW7]; exact (Below.refl w6.heap.size w6).alloc (Nat.le_refl _) _
  have x7 : W7.heap[w6.heap.size]? = some (.cells #[.int .i64 200, .string ⟨#[79, 75]⟩, .int .i64 1, .slice a5 3 c5, .string ⟨#[98]⟩, .int .i64 3, .int .i64 4, .slice b5 0 d5] 26 (0, 0)) := by rw [← hW7]; exact heap_new w6 _ _ rfl
  have hl7 := (of_heap x7 3).2.2
  have R6 := Lib.hid (r5.below b7)
  have HB := Lib.hid (bt HB.out b7)
  have X7 := Lib.hid x7; have HW7 := Lib.hid hW7
  clear hW7 b7 x7 r5
  go_upto_region 2 with (fail)
  rw [HW7.out]
  obtain ⟨p7, hp7⟩ : ∃ p, w6.heap.size = p := ⟨_, rfl⟩
  rw [hp7] at X7 hl7 ⊢
  clear HW7 hp7
  have KK := Lib.hid (works20_any W7 (hE.below HB.out))
  go_wp2_with fail
  (with_reducible refine KK.out.mono ?_)
  clear KK
  rintro e w8 ⟨rfl, hb⟩
  have HB := Lib.hid (bt HB.out hb); have R6 := Lib.hid (R6.out.below hb); have X7 := Lib.hid ((hb.block p7 hl7).trans X7.out); have hl7 := Nat.lt_of_lt_of_le hl7 hb.size; clear hb
  have KK := Lib.hid (ok103 w8)
  go_wp2_with fail
  (with_reducible refine KK.out.mono ?_)
  clear KK
  rintro e w9 ⟨a1, c1, rfl, r1, hb⟩
  have HB := Lib.hid (bt HB.out hb); have R6 := Lib.hid (R6.out.below hb); have X7 := Lib.hid ((hb.block p7 hl7).trans X7.out); have hl7 := Nat.lt_of_lt_of_le hl7 hb.size; clear hb
  have KK := Lib.hid (ok104 a1 c1 w9 (hE.below HB.out) r1)
  go_wp2_with fail
  (with_reducible refine KK.out.mono ?_)
  clear KK
  rintro e w10 ⟨a2, c2, rfl, r2, hb⟩
  clear r1 r2
  have HB := Lib.hid (bt HB.out hb); have R6 := Lib.hid (R6.out.below hb); have X7 := Lib.hid ((hb.block p7 hl7).trans X7.out); have hl7 := Nat.lt_of_lt_of_le hl7 hb.size; clear hb
  have KK := Lib.hid (okN w10)
  go_wp2_with fail
  (with_reducible refine KK.out.mono ?_)
  clear KK
  rintro e w11 ⟨a1, c1, rfl, r1, hb⟩
  have HB := Lib.hid (bt HB.out hb); have R6 := Lib.hid (R6.out.below hb); have X7 := Lib.hid ((hb.block p7 hl7).trans X7.out); have hl7 := Nat.lt_of_lt_of_le hl7 hb.size; clear hb
  have KK := Lib.hid (ok107 a1 c1 w11 (hE.below HB.out) r1)
  go_wp2_with fail
  (with_reducible refine KK.out.mono ?_)
  clear KK
  rintro e w12 ⟨a2, c2, rfl, r2, hb⟩
  clear r1 r2
  have HB := Lib.hid (bt HB.out hb); have R6 := Lib.hid (R6.out.below hb); have X7 := Lib.hid ((hb.block p7 hl7).trans X7.out); have hl7 := Nat.lt_of_lt_of_le hl7 hb.size; clear hb
  have KK := Lib.hid (ok105 w12)
  go_wp2_with fail
  (with_reducible refine KK.out.mono ?_)
  clear KK
  rintro e w13 ⟨a1, c1, rfl, r1, hb⟩
  have HB := Lib.hid (bt HB.out hb); have R6 := Lib.hid (R6.out.below hb); have X7 := Lib.hid ((hb.block p7 hl7).trans X7.out); have hl7 := Nat.lt_of_lt_of_le hl7 hb.size; clear hb
  have KK := Lib.hid (ok106 a1 c1 w13 (hE.below HB.out) r1)
  go_wp2_with fail
  (with_reducible refine KK.out.mono ?_)
  clear KK
  rintro e w14 ⟨a2, c2, rfl, r2, hb⟩
  clear r1 r2
  have HB := Lib.hid (bt HB.out hb); have R6 := Lib.hid (R6.out.below hb); have X7 := Lib.hid ((hb.block p7 hl7).trans X7.out); have hl7 := Nat.lt_of_lt_of_le hl7 hb.size; clear hb
  have e3 := (of_heap X7.out 3).1
  simp only [List.getElem?_toArray, List.getElem?_cons_succ, List.getElem?_cons_zero] at e3
  have KK := Lib.hid (ok108 a5 c5 w14 R6.out)
  go_wp2_with fail
  (with_reducible refine KK.out.mono ?_)
  clear KK
  rintro e w15 ⟨rfl, hb⟩
  have HB := Lib.hid (bt HB.out hb); have R6 := Lib.hid (R6.out.below hb); have X7 := Lib.hid ((hb.block p7 hl7).trans X7.out); have hl7 := Nat.lt_of_lt_of_le hl7 hb.size; clear hb
  clear e3
  have g0 := (of_heap X7.out 0).1; have g1 := (of_heap X7.out 1).1; have g4 := (of_heap X7.out 4).1
  simp only [List.getElem?_toArray, List.getElem?_cons_succ, List.getElem?_cons_zero] at g0 g1 g4
  have KK := Lib.hid (works20_any w15 (hE.below HB.out))
  go_wp2_with fail
  (with_reducible refine KK.out.mono ?_)
  clear KK
  rintro e w16 ⟨rfl, hb⟩
  have HB := Lib.hid (bt HB.out hb)
  clear hb
  go_wp2
  go_ret
  exact ⟨rfl, HB.out⟩
end Go.Proofs.YtgmmjhcklhajiaaDoor
