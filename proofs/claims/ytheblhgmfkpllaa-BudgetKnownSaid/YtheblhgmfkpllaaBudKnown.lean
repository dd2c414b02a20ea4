/- BudgetKnown: budgets that are none, and the walk of the law (printed by wip/tools/known18.py). -/
import Derived.Test.YtheblhgmfkpllaaBudAre
import Derived.Test.YtheblhgmfkpllaaBudIQ
namespace Go.Proofs.Ytheblhgmfkpllaa
open Go.RowKit
set_option maxRecDepth 100000

/-- No budget: nil, or one that New did not make. -/
def NoB (v : Value) (w : World) : Prop := v = .pointer none ∨ ∃ z, v = .pointer (some ⟨z, 0, none⟩) ∧ w.cell? ⟨z, 4, none⟩ = some (.pointer none)
theorem isI_no {v : Value} {w : World} (h : NoB v w) : Calls Try.prog 28 #[v] w fun e w' => e = .returned (.bool false) ∧ w = w' := by
  rcases h with rfl | ⟨z, rfl, c4⟩
  · go_enter Try.func28, Try.ntmps28
    go_wp2
    go_ret
    exact ⟨rfl, rfl⟩
  · go_enter Try.func28, Try.ntmps28
    go_wp2
    go_ret
    exact ⟨rfl, rfl⟩
set_option maxHeartbeats 4000000 in
theorem findI_no {v : Value} {w : World} (h : NoB v w) (k : ByteArray) : Calls Try.prog 29 #[v, .string k] w fun e w' => e = .returned (.pointer none) ∧ w = w' := by
  have k1 := isI_no h
  have K1 := Lib.hid k1
  clear k1 h
  go_enter Try.func29, Try.ntmps29
  go_wp2_with fail
  (with_reducible refine K1.out.mono ?_)
  rintro y w1 ⟨rfl, rfl⟩
  go_wp2
  go_ret
  exact ⟨rfl, rfl⟩
set_option maxHeartbeats 4000000 in
theorem dropI_no {v : Value} {w : World} (h : NoB v w) (k : ByteArray) : Calls Try.prog 27 #[v, .string k] w fun e w' => e = .returned (.bool false) ∧ w = w' := by
  have k1 := findI_no h k
  have K1 := Lib.hid k1
  clear k1 h
  go_enter Try.func27, Try.ntmps27
  go_wp2_with fail
  (with_reducible refine K1.out.mono ?_)
  rintro y w1 ⟨rfl, rfl⟩
  go_wp2
  go_ret
  exact ⟨rfl, rfl⟩
set_option maxHeartbeats 4000000 in
theorem getI_no {v : Value} {w : World} (h : NoB v w) (k : ByteArray) : Calls Try.prog 25 #[v, .string k] w fun e w' => e = .returned (.tuple #[.int .i64 0, .bool false]) ∧ w = w' := by
  have k1 := findI_no h k
  have K1 := Lib.hid k1
  clear k1 h
  go_enter Try.func25, Try.ntmps25
  go_wp2_with fail
  (with_reducible refine K1.out.mono ?_)
  rintro y w1 ⟨rfl, rfl⟩
  go_wp2
  go_ret2
  exact ⟨rfl, rfl⟩
set_option maxHeartbeats 4000000 in
theorem peekI_no {v : Value} {w : World} (h : NoB v w) (k : ByteArray) : Calls Try.prog 10 #[v, .string k] w fun e w' => e = .returned (.tuple #[.int .i64 0, .bool false]) ∧ w = w' := by
  have k1 := findI_no h k
  have K1 := Lib.hid k1
  clear k1 h
  go_enter Try.func10, Try.ntmps10
  go_wp2_with fail
  (with_reducible refine K1.out.mono ?_)
  rintro y w1 ⟨rfl, rfl⟩
  go_wp2
  go_ret2
  exact ⟨rfl, rfl⟩
set_option maxHeartbeats 4000000 in
theorem putI_no {v : Value} {w : World} (h : NoB v w) (k : ByteArray) (s x : Int) : Calls Try.prog 26 #[v, .string k, .int .i64 s, .int .i64 x] w fun e w' => e = .returned (.slice none 0 0) ∧ w = w' := by
  have k1 := isI_no h
  have K1 := Lib.hid k1
  clear k1 h
  go_enter Try.func26, Try.ntmps26
  go_wp2_with fail
  (with_reducible refine K1.out.mono ?_)
  rintro y w1 ⟨rfl, rfl⟩
  go_wp2
  go_ret
  exact ⟨rfl, rfl⟩
set_option maxHeartbeats 4000000 in
theorem keysI_no {v : Value} {w : World} (h : NoB v w) : Calls Try.prog 9 #[v] w fun e w' => e = .returned (.slice none 0 0) ∧ w = w' := by
  have k1 := isI_no h
  have K1 := Lib.hid k1
  clear k1 h
  go_enter Try.func9, Try.ntmps9
  go_wp2_with fail
  (with_reducible refine K1.out.mono ?_)
  rintro y w1 ⟨rfl, rfl⟩
  go_wp2
  go_ret
  exact ⟨rfl, rfl⟩
set_option maxHeartbeats 4000000 in
theorem bytesI_no {v : Value} {w : World} (h : NoB v w) : Calls Try.prog 14 #[v] w fun e w' => e = .returned (.int .i64 0) ∧ w = w' := by
  have k1 := isI_no h
  have K1 := Lib.hid k1
  clear k1 h
  go_enter Try.func14, Try.ntmps14
  go_wp2_with fail
  (with_reducible refine K1.out.mono ?_)
  rintro y w1 ⟨rfl, rfl⟩
  go_wp2
  go_ret
  exact ⟨rfl, rfl⟩
set_option maxHeartbeats 4000000 in
theorem lenI_no {v : Value} {w : World} (h : NoB v w) : Calls Try.prog 13 #[v] w fun e w' => e = .returned (.int .i64 0) ∧ w = w' := by
  have k1 := isI_no h
  have K1 := Lib.hid k1
  clear k1 h
  go_enter Try.func13, Try.ntmps13
  go_wp2_with fail
  (with_reducible refine K1.out.mono ?_)
  rintro y w1 ⟨rfl, rfl⟩
  go_wp2
  go_ret
  exact ⟨rfl, rfl⟩
set_option maxHeartbeats 16000000 in
theorem budgetKnown_any (w : World) : Calls Try.prog 6 #[] w fun e w' => e = .returned (.bool true) ∧ Below w.heap.size w w' := by
  have k0 := works_q w
  have K0 := Lib.hid k0
  clear k0
  go_enter Try.func6, Try.ntmps6
  go_wp2_with fail
  (with_reducible refine K0.out.mono ?_)
  rintro x w0 ⟨rfl, hb0⟩
  have k1 := newS_q 2 10 w0 (by decide) (by decide)
  have K1 := Lib.hid k1
  clear k1 K0
  go_wp2_with fail
  (with_reducible refine K1.out.mono ?_)
  rintro x w1 ⟨bl, fp1, rfl, hq1, hb1, hf1⟩
  have HB1 := Lib.hid (bt hb0 hb1)
  have HF1 := Lib.hid (show ∀ b ∈ fp1, w.heap.size ≤ b from fun b hb => Nat.le_trans hb0.size (hf1 b hb))
  have HQ1 := Lib.hid hq1
  clear hb0 hb1 hf1 hq1 K1
  have e1 : putE 2 10 ⟨#[97]⟩ (4) (.string ⟨#[120]⟩) ([] : List Ent) = (([] : List ByteArray), ([⟨⟨#[97]⟩, 4, .string ⟨#[120]⟩⟩] : List Ent)) := by kernel_rfl
  have kk := putS_q HQ1.out ⟨#[97]⟩ (by decide) (4) ⟨#[120]⟩
  rw [e1] at kk
  simp only at kk
  have KK := Lib.hid kk
  clear kk e1
  go_wp2_with fail
  (with_reducible refine KK.out.mono ?_)
  rintro x w2 ⟨a2, c2, fp2, rfl, hO, hq2, ht, hf, hg⟩
  have hB : Below w.heap.size w w2 := HB1.out.trans (ht.below HF1.out HB1.out.size)
  have hF := mem_disj HF1.out hf HB1.out.size
  have HB2 := Lib.hid hB; have HF2 := Lib.hid hF; have HQ2 := Lib.hid hq2
  clear hB hF hq2 ht hf hg hO KK HB1 HF1 HQ1
  have e1 : putE 2 10 ⟨#[99]⟩ (2) (.string ⟨#[122]⟩) ([⟨⟨#[97]⟩, 4, .string ⟨#[120]⟩⟩] : List Ent) = (([] : List ByteArray), ([⟨⟨#[97]⟩, 4, .string ⟨#[120]⟩⟩, ⟨⟨#[99]⟩, 2, .string ⟨#[122]⟩⟩] : List Ent)) := by kernel_rfl
  have kk := putS_q HQ2.out ⟨#[99]⟩ (by decide) (2) ⟨#[122]⟩
  rw [e1] at kk
  simp only at kk
  have KK := Lib.hid kk
  clear kk e1
  go_wp2_with fail
  (with_reducible refine KK.out.mono ?_)
  rintro x w3 ⟨a3, c3, fp3, rfl, hO, hq3, ht, hf, hg⟩
  have hB : Below w.heap.size w w3 := HB2.out.trans (ht.below HF2.out HB2.out.size)
  have hF := mem_disj HF2.out hf HB2.out.size
  have HB3 := Lib.hid hB; have HF3 := Lib.hid hF; have HQ3 := Lib.hid hq3
  clear hB hF hq3 ht hf hg hO KK HB2 HF2 HQ2
  have e1 : putE 2 10 ⟨#[97]⟩ (9) (.string ⟨#[119]⟩) ([⟨⟨#[97]⟩, 4, .string ⟨#[120]⟩⟩, ⟨⟨#[99]⟩, 2, .string ⟨#[122]⟩⟩] : List Ent) = (([⟨#[99]⟩] : List ByteArray), ([⟨⟨#[97]⟩, 9, .string ⟨#[119]⟩⟩] : List Ent)) := by kernel_rfl
  have kk := putS_q HQ3.out ⟨#[97]⟩ (by decide) (9) ⟨#[119]⟩
  rw [e1] at kk
  simp only at kk
  have KK := Lib.hid kk
  clear kk e1
  go_wp2_with fail
  (with_reducible refine KK.out.mono ?_)
  rintro x w4 ⟨a4, c4, fp4, rfl, hO, hq4, ht, hf, hg⟩
  have hB : Below w.heap.size w w4 := HB3.out.trans (ht.below HF3.out HB3.out.size)
  have hF := mem_disj HF3.out hf HB3.out.size
  have HB4 := Lib.hid hB; have HF4 := Lib.hid hF; have HQ4 := Lib.hid hq4
  obtain ⟨g4, rfl, hgc, _⟩ := hO.cell 0 (by decide)
  have hgc4 : w4.cell? ⟨g4, 0, none⟩ = some (.string ⟨#[99]⟩) := hgc
  clear hgc
  clear hB hF hq4 ht hf hg hO KK HB3 HF3 HQ3
  have kk := are_q HQ4.out ⟨#[97]⟩ [[97]] rfl (by decide)
  rw [show (Lib.join [[97]] [32] == (⟨#[97]⟩ : ByteArray).data.toList) = true from by kernel_rfl] at kk
  have KK := Lib.hid kk
  clear kk
  go_wp2_with fail
  (with_reducible refine KK.out.mono ?_)
  rintro x w5 ⟨rfl, hb⟩
  have HB5 := Lib.hid (bt HB4.out hb); have HQ5 := Lib.hid (HQ4.out.below hb); have HF5 := HF4
  clear hb KK HB4 HQ4 HF4
  have e1 : putE 2 10 ⟨#[99]⟩ (11) (.string ⟨#[118]⟩) ([⟨⟨#[97]⟩, 9, .string ⟨#[119]⟩⟩] : List Ent) = (([] : List ByteArray), ([⟨⟨#[97]⟩, 9, .string ⟨#[119]⟩⟩] : List Ent)) := by kernel_rfl
  have kk := putS_q HQ5.out ⟨#[99]⟩ (by decide) (11) ⟨#[118]⟩
  rw [e1] at kk
  simp only at kk
  have KK := Lib.hid kk
  clear kk e1
  go_wp2_with fail
  (with_reducible refine KK.out.mono ?_)
  rintro x w6 ⟨a6, c6, fp6, rfl, hO, hq6, ht, hf, hg⟩
  have hB : Below w.heap.size w w6 := HB5.out.trans (ht.below HF5.out HB5.out.size)
  have hF := mem_disj HF5.out hf HB5.out.size
  have HB6 := Lib.hid hB; have HF6 := Lib.hid hF; have HQ6 := Lib.hid hq6
  clear hB hF hq6 ht hf hg hO KK HB5 HF5 HQ5
  have kk := are_q HQ6.out ⟨#[97]⟩ [[97]] rfl (by decide)
  rw [show (Lib.join [[97]] [32] == (⟨#[97]⟩ : ByteArray).data.toList) = true from by kernel_rfl] at kk
  have KK := Lib.hid kk
  clear kk
  go_wp2_with fail
  (with_reducible refine KK.out.mono ?_)
  rintro x w7 ⟨rfl, hb⟩
  have HB7 := Lib.hid (bt HB6.out hb); have HQ7 := Lib.hid (HQ6.out.below hb); have HF7 := HF6
  clear hb KK HB6 HQ6 HF6
  have e1 : putE 2 10 ⟨#[97]⟩ (11) (.string ⟨#[117]⟩) ([⟨⟨#[97]⟩, 9, .string ⟨#[119]⟩⟩] : List Ent) = (([⟨#[97]⟩] : List ByteArray), ([] : List Ent)) := by kernel_rfl
  have kk := putS_q HQ7.out ⟨#[97]⟩ (by decide) (11) ⟨#[117]⟩
  rw [e1] at kk
  simp only at kk
  have KK := Lib.hid kk
  clear kk e1
  go_wp2_with fail
  (with_reducible refine KK.out.mono ?_)
  rintro x w8 ⟨a8, c8, fp8, rfl, hO, hq8, ht, hf, hg⟩
  have hB : Below w.heap.size w w8 := HB7.out.trans (ht.below HF7.out HB7.out.size)
  have hF := mem_disj HF7.out hf HB7.out.size
  have HB8 := Lib.hid hB; have HF8 := Lib.hid hF; have HQ8 := Lib.hid hq8
  obtain ⟨g8, rfl, hgc, _⟩ := hO.cell 0 (by decide)
  have hgc8 : w8.cell? ⟨g8, 0, none⟩ = some (.string ⟨#[97]⟩) := hgc
  clear hgc
  clear hB hF hq8 ht hf hg hO KK HB7 HF7 HQ7
  have kk := lenS_q HQ8.out
  have KK := Lib.hid kk
  clear kk
  go_wp2_with fail
  (with_reducible refine KK.out.mono ?_)
  rintro x wq ⟨rfl, rfl⟩
  clear KK
  have e1 : putE 2 10 ⟨#[100]⟩ (-5) (.string ⟨#[116]⟩) ([] : List Ent) = (([] : List ByteArray), ([⟨⟨#[100]⟩, 0, .string ⟨#[116]⟩⟩] : List Ent)) := by kernel_rfl
  have kk := putS_q HQ8.out ⟨#[100]⟩ (by decide) (-5) ⟨#[116]⟩
  rw [e1] at kk
  simp only at kk
  have KK := Lib.hid kk
  clear kk e1
  go_wp2_with fail
  (with_reducible refine KK.out.mono ?_)
  rintro x w9 ⟨a9, c9, fp9, rfl, hO, hq9, ht, hf, hg⟩
  have hB : Below w.heap.size w w9 := HB8.out.trans (ht.below HF8.out HB8.out.size)
  have hF := mem_disj HF8.out hf HB8.out.size
  have HB9 := Lib.hid hB; have HF9 := Lib.hid hF; have HQ9 := Lib.hid hq9
  clear hB hF hq9 ht hf hg hO KK HB8 HF8 HQ8
  have kk := peekS_q HQ9.out ⟨#[100]⟩ (by decide)
  rw [show valE zeS.x ⟨#[100]⟩ ([⟨⟨#[100]⟩, 0, .string ⟨#[116]⟩⟩] : List Ent) = .string ⟨#[116]⟩ from by kernel_rfl, show hasE ⟨#[100]⟩ ([⟨⟨#[100]⟩, 0, .string ⟨#[116]⟩⟩] : List Ent) = true from by kernel_rfl] at kk
  have KK := Lib.hid kk
  clear kk
  go_wp2_with fail
  (with_reducible refine KK.out.mono ?_)
  rintro x wq ⟨rfl, rfl⟩
  clear KK
  have kk := bytesS_q HQ9.out
  rw [show sumE ([⟨⟨#[100]⟩, 0, .string ⟨#[116]⟩⟩] : List Ent) = 0 from by kernel_rfl] at kk
  have KK := Lib.hid kk
  clear kk
  go_wp2_with fail
  (with_reducible refine KK.out.mono ?_)
  rintro x wq ⟨rfl, rfl⟩
  clear KK
  have kk := dropS_q HQ9.out ⟨#[100]⟩ (by decide)
  rw [show hasE ⟨#[100]⟩ ([⟨⟨#[100]⟩, 0, .string ⟨#[116]⟩⟩] : List Ent) = true from by kernel_rfl, show delE ⟨#[100]⟩ ([⟨⟨#[100]⟩, 0, .string ⟨#[116]⟩⟩] : List Ent) = [] from by kernel_rfl] at kk
  have KK := Lib.hid kk
  clear kk
  go_wp2_with fail
  (with_reducible refine KK.out.mono ?_)
  rintro x w10 ⟨rfl, fp10, hq10, ht, hf⟩
  have HB10 := Lib.hid (show Below w.heap.size w w10 from HB9.out.trans (ht.below HF9.out HB9.out.size))
  have HF10 := Lib.hid (mem_disj HF9.out hf HB9.out.size)
  have HQ10 := Lib.hid hq10
  clear hq10 ht hf KK HB9 HF9 HQ9
  have kk := dropS_q HQ10.out ⟨#[100]⟩ (by decide)
  rw [show hasE ⟨#[100]⟩ ([] : List Ent) = false from by kernel_rfl, show delE ⟨#[100]⟩ ([] : List Ent) = [] from by kernel_rfl] at kk
  have KK := Lib.hid kk
  clear kk
  go_wp2_with fail
  (with_reducible refine KK.out.mono ?_)
  rintro x w11 ⟨rfl, fp11, hq11, ht, hf⟩
  have HB11 := Lib.hid (show Below w.heap.size w w11 from HB10.out.trans (ht.below HF10.out HB10.out.size))
  have HF11 := Lib.hid (mem_disj HF10.out hf HB10.out.size)
  have HQ11 := Lib.hid hq11
  clear hq11 ht hf KK HB10 HF10 HQ10
  have kk := newI_none 0 1 w11 (by decide)
  have KK := Lib.hid kk
  clear kk
  go_wp2_with fail
  (with_reducible refine KK.out.mono ?_)
  rintro x wq ⟨rfl, rfl⟩
  clear KK
  have kk := newI_none 4097 1 w11 (by decide)
  have KK := Lib.hid kk
  clear kk
  go_wp2_with fail
  (with_reducible refine KK.out.mono ?_)
  rintro x wq ⟨rfl, rfl⟩
  clear KK
  have kk := newI_none 1 0 w11 (by decide)
  have KK := Lib.hid kk
  clear kk
  go_wp2_with fail
  (with_reducible refine KK.out.mono ?_)
  rintro x wq ⟨rfl, rfl⟩
  clear KK
  have kk := newI_none 1 1073741825 w11 (by decide)
  have KK := Lib.hid kk
  clear kk
  go_wp2_with fail
  (with_reducible refine KK.out.mono ?_)
  rintro x wq ⟨rfl, rfl⟩
  clear KK
  have kk := newI_q 4096 1073741824 w11 (by decide) (by decide)
  have KK := Lib.hid kk
  clear kk HQ11 HF11
  go_wp2_with fail
  (with_reducible refine KK.out.mono ?_)
  rintro x w12 ⟨bl2, fpz, rfl, _, hb, _⟩
  have HB12 := Lib.hid (bt HB11.out hb)
  clear hb KK HB11
  have hal := (Below.refl w12.heap.size w12).alloc (Nat.le_refl _) (.cells #[.int .i64 0, .int .i64 0, .int .i64 0, .map none, .pointer none] 54 (0, 0))
  have hA := heap_alloc_last w12 (.cells #[.int .i64 0, .int .i64 0, .int .i64 0, .map none, .pointer none] 54 (0, 0))
  have HB := Lib.hid (bt HB12.out hal)
  obtain ⟨W, hW⟩ : ∃ W, w12.alloc (.cells #[.int .i64 0, .int .i64 0, .int .i64 0, .map none, .pointer none] 54 (0, 0)) = W := ⟨_, rfl⟩
  rw [hW] at hA HB
  have HW := Lib.hid hW
  have n1 : NoB (.pointer none) W := Or.inl rfl
  have n2 : NoB (.pointer (some ⟨w12.heap.size, 0, none⟩)) W := Or.inr ⟨_, rfl, by simp [World.cell?, hA]⟩
  clear hA hal hW HB12
  have kk := getI_no n1 ⟨#[97]⟩
  have KK := Lib.hid kk
  clear kk
  go_wp2_with fail
  rw [HW.out]
  (with_reducible refine KK.out.mono ?_)
  rintro x wq ⟨rfl, rfl⟩
  clear KK
  have kk := peekI_no n2 ⟨#[97]⟩
  have KK := Lib.hid kk
  clear kk
  go_wp2_with fail
  (with_reducible refine KK.out.mono ?_)
  rintro x wq ⟨rfl, rfl⟩
  clear KK
  have kk := putI_no n1 ⟨#[97]⟩ 1 1
  have KK := Lib.hid kk
  clear kk
  go_wp2_with fail
  (with_reducible refine KK.out.mono ?_)
  rintro x wq ⟨rfl, rfl⟩
  clear KK
  have kk := putI_no n2 ⟨#[97]⟩ 1 1
  have KK := Lib.hid kk
  clear kk
  go_wp2_with fail
  (with_reducible refine KK.out.mono ?_)
  rintro x wq ⟨rfl, rfl⟩
  clear KK
  have kk := dropI_no n1 ⟨#[97]⟩
  have KK := Lib.hid kk
  clear kk
  go_wp2_with fail
  (with_reducible refine KK.out.mono ?_)
  rintro x wq ⟨rfl, rfl⟩
  clear KK
  have kk := dropI_no n2 ⟨#[97]⟩
  have KK := Lib.hid kk
  clear kk
  go_wp2_with fail
  (with_reducible refine KK.out.mono ?_)
  rintro x wq ⟨rfl, rfl⟩
  clear KK
  have kk := keysI_no n1
  have KK := Lib.hid kk
  clear kk
  go_wp2_with fail
  (with_reducible refine KK.out.mono ?_)
  rintro x wq ⟨rfl, rfl⟩
  clear KK
  have kk := keysI_no n2
  have KK := Lib.hid kk
  clear kk
  go_wp2_with fail
  (with_reducible refine KK.out.mono ?_)
  rintro x wq ⟨rfl, rfl⟩
  clear KK
  have kk := bytesI_no n1
  have KK := Lib.hid kk
  clear kk
  go_wp2_with fail
  (with_reducible refine KK.out.mono ?_)
  rintro x wq ⟨rfl, rfl⟩
  clear KK
  have kk := lenI_no n2
  have KK := Lib.hid kk
  clear kk
  go_wp2_with fail
  (with_reducible refine KK.out.mono ?_)
  rintro x wq ⟨rfl, rfl⟩
  clear KK
  have kk := works_q W
  have KK := Lib.hid kk
  clear kk
  go_wp2_with fail
  (with_reducible refine KK.out.mono ?_)
  rintro x wz ⟨rfl, hbz⟩
  go_wp2
  go_ret
  exact ⟨rfl, bt HB.out hbz⟩
end Go.Proofs.Ytheblhgmfkpllaa
