/- The texts' budgets of chapter 18's examples: 'are' and 'works'. -/
import Derived.Test.YtheblhgmfkpllaaBudSQ
import Derived.Test.YtheblhgmfkpllaaBudJoin
namespace Go.Proofs.Ytheblhgmfkpllaa
open Go.RowKit
set_option maxRecDepth 100000

set_option maxHeartbeats 4000000 in
theorem are_q {w : World} {fp : List Nat} {bl : Nat} {n m : Int} {es : List Ent} (h : BQS w fp bl n m es) (want : ByteArray) (ls : List (List UInt8)) (hls : strs (es.map (·.key)) = ls) (ht : total ls ≤ 1000000) :
    Calls Try.prog 20 #[.pointer (some ⟨bl, 0, none⟩), .string want] w fun e w' => e = .returned (.bool (Lib.join ls [32] == want.data.toList)) ∧ Below w.heap.size w w' := by
  have k1 := keysS_q h
  have hl : ls.length ≤ 4096 := by
    have := h.ends
    rw [← hls]
    unfold strs
    rw [List.length_map, List.length_map]
    omega
  rw [hls] at k1
  have K1 := Lib.hid k1
  have HL := Lib.hid (And.intro hl ht)
  clear k1 h hls hl ht
  go_enter Try.func20, Try.ntmps20
  go_wp2_with fail
  (with_reducible refine K1.out.mono ?_)
  rintro x w1 ⟨a, cap, rfl, hO, hb⟩
  have k2 := join_any w.heap.size cap a ls ⟨#[32]⟩ w1 hO (by have := HL.out.1; omega) (by have := HL.out; show total ls + ls.length * 1 ≤ _; omega)
  have e32 : (⟨#[32]⟩ : ByteArray).data.toList = [32] := rfl
  rw [e32] at k2
  have K2 := Lib.hid k2
  clear k2 e32
  go_wp2_with fail
  (with_reducible refine K2.out.mono ?_)
  rintro x w2 ⟨rfl, hb2⟩
  go_wp2
  go_ret
  refine ⟨?_, hb.trans (hb2.mono hb.size)⟩
  show Ending.returned (.bool (Lib.join ls [32] == want.toList)) = _
  rw [Lib.toList_data]
theorem mem_disj {fp : List Nat} {B : Nat} (h : ∀ b ∈ fp, B ≤ b) {fp' : List Nat} {w : World} (hf : ∀ b ∈ fp', b ∈ fp ∨ w.heap.size ≤ b) (hB : B ≤ w.heap.size) : ∀ b ∈ fp', B ≤ b := fun b hb => by
  rcases hf b hb with h' | h'
  · exact h b h'
  · omega
set_option maxHeartbeats 8000000 in
theorem works_q (w : World) : Calls Try.prog 11 #[] w fun e w' => e = .returned (.bool true) ∧ Below w.heap.size w w' := by
  have k0 := newS_q 2 10 w (by decide) (by decide)
  have K0 := Lib.hid k0
  clear k0
  go_enter Try.func11, Try.ntmps11
  go_wp2_with fail
  (with_reducible refine K0.out.mono ?_)
  rintro x w1 ⟨bl, fp1, rfl, hq1, hb1, hf1⟩
  have e1 : putE 2 10 ⟨#[97]⟩ 4 (.string ⟨#[120]⟩) [] = ([], [⟨⟨#[97]⟩, 4, .string ⟨#[120]⟩⟩]) := by kernel_rfl
  have k1 := putS_q hq1 ⟨#[97]⟩ (by decide) 4 ⟨#[120]⟩
  rw [e1] at k1
  simp only at k1
  have K1 := Lib.hid k1
  have HB1 := Lib.hid hb1
  clear k1 e1 hq1 K0 hb1
  go_wp2_with fail
  (with_reducible refine K1.out.mono ?_)
  rintro x w2 ⟨a2, c2, fp2, rfl, hO2, hq2, ht2, hf2, hg2⟩
  have e1 : putE 2 10 ⟨#[98]⟩ 4 (.string ⟨#[121]⟩) [⟨⟨#[97]⟩, 4, .string ⟨#[120]⟩⟩] = ([], [⟨⟨#[97]⟩, 4, .string ⟨#[120]⟩⟩, ⟨⟨#[98]⟩, 4, .string ⟨#[121]⟩⟩]) := by kernel_rfl
  have k2 := putS_q hq2 ⟨#[98]⟩ (by decide) 4 ⟨#[121]⟩
  rw [e1] at k2
  simp only at k2
  have K2 := Lib.hid k2
  have hB2 : Below w.heap.size w w2 := HB1.out.trans (ht2.below hf1 HB1.out.size)
  have hF2 := mem_disj hf1 hf2 HB1.out.size
  have HB2 := Lib.hid hB2
  clear k2 e1 hq2 K1 HB1 ht2 hf2 hg2 hO2 hf1 hB2
  go_wp2_with fail
  (with_reducible refine K2.out.mono ?_)
  rintro x w3 ⟨a3, c3, fp3, rfl, hO3, hq3, ht3, hf3, hg3⟩
  have e1 : getE ⟨#[97]⟩ [⟨⟨#[97]⟩, 4, .string ⟨#[120]⟩⟩, ⟨⟨#[98]⟩, 4, .string ⟨#[121]⟩⟩] = [⟨⟨#[98]⟩, 4, .string ⟨#[121]⟩⟩, ⟨⟨#[97]⟩, 4, .string ⟨#[120]⟩⟩] := by kernel_rfl
  have e2 : valE zeS.x ⟨#[97]⟩ [⟨⟨#[97]⟩, 4, .string ⟨#[120]⟩⟩, ⟨⟨#[98]⟩, 4, .string ⟨#[121]⟩⟩] = .string ⟨#[120]⟩ := by kernel_rfl
  have e3 : hasE ⟨#[97]⟩ [⟨⟨#[97]⟩, 4, .string ⟨#[120]⟩⟩, ⟨⟨#[98]⟩, 4, .string ⟨#[121]⟩⟩] = true := by kernel_rfl
  have k3 := getS_q hq3 ⟨#[97]⟩ (by decide)
  rw [e1, e2, e3] at k3
  have K3 := Lib.hid k3
  have hB3 : Below w.heap.size w w3 := HB2.out.trans (ht3.below hF2 HB2.out.size)
  have hF3 := mem_disj hF2 hf3 HB2.out.size
  have HB3 := Lib.hid hB3
  clear k3 e1 e2 e3 hq3 K2 HB2 ht3 hf3 hg3 hO3 hF2 hB3
  go_wp2_with fail
  (with_reducible refine K3.out.mono ?_)
  rintro x w4 ⟨rfl, fp4, hq4, ht4, hf4⟩
  have e1 : putE 2 10 ⟨#[99]⟩ 2 (.string ⟨#[122]⟩) [⟨⟨#[98]⟩, 4, .string ⟨#[121]⟩⟩, ⟨⟨#[97]⟩, 4, .string ⟨#[120]⟩⟩] = ([⟨#[98]⟩], [⟨⟨#[97]⟩, 4, .string ⟨#[120]⟩⟩, ⟨⟨#[99]⟩, 2, .string ⟨#[122]⟩⟩]) := by kernel_rfl
  have k4 := putS_q hq4 ⟨#[99]⟩ (by decide) 2 ⟨#[122]⟩
  rw [e1] at k4
  simp only at k4
  have K4 := Lib.hid k4
  have hB4 : Below w.heap.size w w4 := HB3.out.trans (ht4.below hF3 HB3.out.size)
  have hF4 := mem_disj hF3 hf4 HB3.out.size
  have HB4 := Lib.hid hB4
  clear k4 e1 hq4 K3 HB3 ht4 hf4 hF3 hB4
  go_wp2_with fail
  (with_reducible refine K4.out.mono ?_)
  rintro x w5 ⟨a5, c5, fp5, rfl, hO5, hq5, ht5, hf5, hg5⟩
  have hB5 : Below w.heap.size w w5 := HB4.out.trans (ht5.below hF4 HB4.out.size)
  obtain ⟨g, rfl, hgc, _⟩ := hO5.cell 0 (by decide)
  have hgc2 : w5.cell? ⟨g, 0, none⟩ = some (.string ⟨#[98]⟩) := hgc
  have k5 := are_q hq5 ⟨#[97, 32, 99]⟩ [[97], [99]] rfl (by decide)
  rw [show (Lib.join [[97], [99]] [32] == (⟨#[97, 32, 99]⟩ : ByteArray).data.toList) = true from by kernel_rfl] at k5
  have K5 := Lib.hid k5
  have HQ5 := Lib.hid hq5
  have HB5 := Lib.hid hB5
  clear k5 hq5 hB5 hgc hO5 K4 HB4 ht5 hf5 hg5 hF4
  go_wp2_with fail
  (with_reducible refine K5.out.mono ?_)
  rintro x w6 ⟨rfl, hb6⟩
  have k6 := bytesS_q (HQ5.out.below hb6)
  rw [show sumE [(⟨⟨#[97]⟩, 4, .string ⟨#[120]⟩⟩ : Ent), ⟨⟨#[99]⟩, 2, .string ⟨#[122]⟩⟩] = 6 from by kernel_rfl] at k6
  have K6 := Lib.hid k6
  clear k6
  go_wp2_with fail
  (with_reducible refine K6.out.mono ?_)
  rintro x w7 ⟨rfl, rfl⟩
  go_wp2
  go_ret
  exact ⟨rfl, HB5.out.trans (hb6.mono HB5.out.size)⟩
end Go.Proofs.Ytheblhgmfkpllaa
