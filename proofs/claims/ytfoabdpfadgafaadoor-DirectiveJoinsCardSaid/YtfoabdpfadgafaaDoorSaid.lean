/- The walk of directive.said. -/
import Derived.Test.YtfoabdpfadgafaaDoorDirSpec
import Derived.Test.YtfoabdpfadgafaaDoorCut
import Derived.Test.YtfoabdpfadgafaaDoorQuote
import Derived.Test.YtfoabdpfadgafaaDoorToken
import Derived.Test.YtfoabdpfadgafaaDoorLower
import Derived.Laws.ResultCell
namespace Go.Proofs.YtfoabdpfadgafaaDoor
open Go.RowKit
set_option maxRecDepth 100000

theorem cut_lens (s sep : List UInt8) : (Lib.cut s sep).1.length ≤ s.length ∧ (Lib.cut s sep).2.1.length ≤ s.length := by
  unfold Lib.cut
  by_cases h0 : 0 ≤ Lib.index s sep
  · rw [if_pos h0]; simp; omega
  · rw [if_neg h0]; simp
def saidV : Option Dir → Value
  | none => .tuple #[.agg #[.string ⟨#[]⟩, .string ⟨#[]⟩, .bool false, .string ⟨#[]⟩], .bool false]
  | some d => .tuple #[.agg #[.string ⟨d.name.toArray⟩, .string ⟨d.value.toArray⟩, .bool d.has, .string ⟨d.for_.toArray⟩], .bool true]
set_option maxHeartbeats 8000000 in
theorem said_any (s : ByteArray) (w : World) (hM : MaxL w) (hs : s.size ≤ 1000000) :
    Calls Tryd.prog 67 #[.string s] w fun e w' => e = .returned (saidV (saidO s.data.toList)) ∧ Below w.heap.size w w' := by
  obtain ⟨W0, hW0⟩ : ∃ W0, w.alloc (.cells #[.string ⟨#[]⟩, .string ⟨#[]⟩, .bool false, .string ⟨#[]⟩] 29) = W0 := ⟨_, rfl⟩
  have hB0 : Below w.heap.size w W0 := by rw [← hW0]; exact (Below.refl w.heap.size w).alloc (Nat.le_refl _) _
  have z0 : w.heap.size < W0.heap.size := by rw [← hW0]; simp
  have hc : ∀ j, W0.cell? ⟨w.heap.size, j, none⟩ = #[Value.string ⟨#[]⟩, .string ⟨#[]⟩, .bool false, .string ⟨#[]⟩][j]? := fun j => by rw [← hW0]; exact World.cell?_alloc_mark w _ _ _ j
  have hf : ∀ j, W0.frozen? ⟨w.heap.size, j, none⟩ = false := fun j => by rw [← hW0]; exact World.frozen?_alloc_at _ _ _ _ rfl
  have kc : ∀ w', Below W0.heap.size W0 w' → Below w.heap.size w w' ∧ w'.cell? ⟨w.heap.size, 0, none⟩ = some (.string ⟨#[]⟩) ∧ w'.cell? ⟨w.heap.size, 1, none⟩ = some (.string ⟨#[]⟩) ∧ w'.cell? ⟨w.heap.size, 2, none⟩ = some (.bool false) ∧ w'.cell? ⟨w.heap.size, 3, none⟩ = some (.string ⟨#[]⟩) ∧ w'.frozen? ⟨w.heap.size, 0, none⟩ = false ∧ w'.frozen? ⟨w.heap.size, 1, none⟩ = false ∧ w'.frozen? ⟨w.heap.size, 2, none⟩ = false ∧ w'.frozen? ⟨w.heap.size, 3, none⟩ = false ∧ w.heap.size < w'.heap.size :=
    fun w' h => ⟨hB0.trans (h.mono hB0.size), (h.cell (p := ⟨w.heap.size, 0, none⟩) z0).trans (hc 0), (h.cell (p := ⟨w.heap.size, 1, none⟩) z0).trans (hc 1), (h.cell (p := ⟨w.heap.size, 2, none⟩) z0).trans (hc 2), (h.cell (p := ⟨w.heap.size, 3, none⟩) z0).trans (hc 3), (h.frozen (p := ⟨w.heap.size, 0, none⟩) z0).trans (hf 0), (h.frozen (p := ⟨w.heap.size, 1, none⟩) z0).trans (hf 1), (h.frozen (p := ⟨w.heap.size, 2, none⟩) z0).trans (hf 2), (h.frozen (p := ⟨w.heap.size, 3, none⟩) z0).trans (hf 3), Nat.lt_of_lt_of_le z0 h.size⟩
  have k1 := cut_any s ⟨#[61]⟩ W0 (hM.below hB0) hs
  rw [show (⟨#[61]⟩ : ByteArray).data.toList = [61] from rfl] at k1
  have hl := cut_lens s.data.toList [61]
  rw [← Lib.size_eq] at hl
  have ho : saidO s.data.toList = bif !tokenL (Lib.cut s.data.toList [61]).1 then none
    else bif (Lib.cut s.data.toList [61]).2.2 && !tokenL (Lib.cut s.data.toList [61]).2.1 then (unqP (Lib.cut s.data.toList [61]).2.1).map fun s2 => ⟨lowerL (Lib.cut s.data.toList [61]).1, s2, true, []⟩
    else some ⟨lowerL (Lib.cut s.data.toList [61]).1, (Lib.cut s.data.toList [61]).2.1, (Lib.cut s.data.toList [61]).2.2, []⟩ := rfl
  generalize Lib.cut s.data.toList [61] = c at *
  obtain ⟨nm, v, has⟩ := c
  obtain ⟨nm, rfl⟩ : ∃ o : ByteArray, nm = o.data.toList := ⟨⟨nm.toArray⟩, rfl⟩
  obtain ⟨v, rfl⟩ : ∃ o : ByteArray, v = o.data.toList := ⟨⟨v.toArray⟩, rfl⟩
  simp only [str_of, ← Lib.size_eq] at k1 hl ho
  obtain ⟨hl1, hl2⟩ := hl
  have k2 := fun w => token_any nm w (by omega)
  have k3 := fun w => token_any v w (by omega)
  have k4 := fun w => lower_any nm w (by omega)
  have k5 := fun w => unquote_any v w (by omega)
  obtain ⟨ln, hln⟩ : ∃ ln : ByteArray, ⟨(lowerL nm.data.toList).toArray⟩ = ln := ⟨_, rfl⟩
  rw [hln] at k4
  have hV : saidV (saidO s.data.toList) = bif !tokenL nm.data.toList then .tuple #[.agg #[.string ⟨#[]⟩, .string ⟨#[]⟩, .bool false, .string ⟨#[]⟩], .bool false] else bif has && !tokenL v.data.toList then (match unqP v.data.toList with | none => .tuple #[.agg #[.string ⟨#[]⟩, .string ⟨#[]⟩, .bool false, .string ⟨#[]⟩], .bool false] | some s2 => .tuple #[.agg #[.string ln, .string ⟨s2.toArray⟩, .bool true, .string ⟨#[]⟩], .bool true]) else .tuple #[.agg #[.string ln, .string v, .bool has, .string ⟨#[]⟩], .bool true] := by
    rw [ho, ← hln]
    cases tokenL nm.data.toList
    · rfl
    · cases has <;> cases tokenL v.data.toList <;> simp only [Bool.not_true, Bool.not_false, cond_true, cond_false, Bool.and_true, Bool.and_false, saidV, str_of]
      cases unqP v.data.toList <;> rfl
  generalize saidV (saidO s.data.toList) = out at *
  generalize tokenL nm.data.toList = tn at *
  generalize tokenL v.data.toList = tv at *
  generalize unqP v.data.toList = uq at *
  have K1 := Lib.hid k1; have K2 := Lib.hid k2; have K3 := Lib.hid k3; have K4 := Lib.hid k4; have K5 := Lib.hid k5; have KC := Lib.hid kc; have HW0 := Lib.hid hW0
  clear k1 k2 k3 k4 k5 kc hc hf hW0 ho hln hl1 hl2
  cases tn
  · have HO := Lib.hid (show out = _ from hV); clear hV
    simp only [Bool.not_false, cond_true] at HO
    go_enter Tryd.func67, Tryd.ntmps67
    go_wp2_with fail
    rw [HW0.out]
    refine K1.out.mono ?_
    rintro e w1 ⟨rfl, hb1⟩
    go_wp2_with fail
    refine (K2.out _).mono ?_
    rintro e w2 ⟨rfl, rfl⟩
    have ho := HO.out
    subst ho
    clear HO
    obtain ⟨hBw, g0, g1, g2, g3, q0, q1, q2, q3, glt⟩ := KC.out _ hb1
    clear KC
    go_wp2_with fail
    refine bodyPost_ret_by (v := .tuple #[.agg #[.string ⟨#[]⟩, .string ⟨#[]⟩, .bool false, .string ⟨#[]⟩], .bool false]) ?_ rfl ?_
    · rw [results_cell_tmp rfl]
      go_simp
    · exact ⟨rfl, (((hBw.setCell (p := ⟨w.heap.size, 0, none⟩) (Nat.le_refl _) _).setCell (p := ⟨w.heap.size, 1, none⟩) (Nat.le_refl _) _).setCell (p := ⟨w.heap.size, 2, none⟩) (Nat.le_refl _) _).setCell (p := ⟨w.heap.size, 3, none⟩) (Nat.le_refl _) _⟩
  · simp only [Bool.not_true, cond_false] at hV
    cases has
    · simp only [Bool.false_and, cond_false] at hV
      have HO := Lib.hid hV; clear hV
      go_enter Tryd.func67, Tryd.ntmps67
      go_wp2_with fail
      rw [HW0.out]
      refine K1.out.mono ?_
      rintro e w1 ⟨rfl, hb1⟩
      go_wp2_with fail
      refine (K2.out _).mono ?_
      rintro e w2 ⟨rfl, rfl⟩
      have ho := HO.out
      subst ho
      clear HO
      go_wp2_with fail
      refine (K4.out _).mono ?_
      rintro e w9 ⟨rfl, hb9⟩
      have hB9 := bt hb1 hb9
      obtain ⟨hBw, g0, g1, g2, g3, q0, q1, q2, q3, glt⟩ := KC.out _ hB9
      clear KC
      go_wp2_with fail
      refine bodyPost_ret_by (v := .tuple #[.agg #[.string ln, .string v, .bool false, .string ⟨#[]⟩], .bool true]) ?_ rfl ?_
      · rw [results_cell_tmp rfl]
        go_simp
      · exact ⟨rfl, (((hBw.setCell (p := ⟨w.heap.size, 0, none⟩) (Nat.le_refl _) _).setCell (p := ⟨w.heap.size, 1, none⟩) (Nat.le_refl _) _).setCell (p := ⟨w.heap.size, 2, none⟩) (Nat.le_refl _) _).setCell (p := ⟨w.heap.size, 3, none⟩) (Nat.le_refl _) _⟩
    · cases tv
      · simp only [Bool.not_false, Bool.and_true, cond_true] at hV
        cases uq with
        | none =>
          have HO := Lib.hid hV; clear hV
          simp only at HO
          have K6 : Hid (∀ w, Calls Tryd.prog 92 #[.string v] w fun e w' => e = .returned (.tuple #[.string ⟨#[]⟩, .int .i64 4]) ∧ Below w.heap.size w w') := K5
          go_enter Tryd.func67, Tryd.ntmps67
          go_wp2_with fail
          rw [HW0.out]
          refine K1.out.mono ?_
          rintro e w1 ⟨rfl, hb1⟩
          go_wp2_with fail
          refine (K2.out _).mono ?_
          rintro e w2 ⟨rfl, rfl⟩
          go_wp2_with fail
          refine (K3.out _).mono ?_
          rintro e w3 ⟨rfl, rfl⟩
          go_wp2_with fail
          refine (K6.out _).mono ?_
          rintro e w4 ⟨rfl, hb4⟩
          have hB4 := bt hb1 hb4
          have ho := HO.out
          subst ho
          clear HO
          obtain ⟨hBw, g0, g1, g2, g3, q0, q1, q2, q3, glt⟩ := KC.out _ hB4
          clear KC
          go_wp2_with fail
          refine bodyPost_ret_by (v := .tuple #[.agg #[.string ⟨#[]⟩, .string ⟨#[]⟩, .bool false, .string ⟨#[]⟩], .bool false]) ?_ rfl ?_
          · rw [results_cell_tmp rfl]
            go_simp
          · exact ⟨rfl, (((hBw.setCell (p := ⟨w.heap.size, 0, none⟩) (Nat.le_refl _) _).setCell (p := ⟨w.heap.size, 1, none⟩) (Nat.le_refl _) _).setCell (p := ⟨w.heap.size, 2, none⟩) (Nat.le_refl _) _).setCell (p := ⟨w.heap.size, 3, none⟩) (Nat.le_refl _) _⟩
        | some s2 =>
          have HO := Lib.hid hV; clear hV
          simp only at HO
          have K6 : Hid (∀ w, Calls Tryd.prog 92 #[.string v] w fun e w' => e = .returned (.tuple #[.string ⟨s2.toArray⟩, .int .i64 0]) ∧ Below w.heap.size w w') := K5
          go_enter Tryd.func67, Tryd.ntmps67
          go_wp2_with fail
          rw [HW0.out]
          refine K1.out.mono ?_
          rintro e w1 ⟨rfl, hb1⟩
          go_wp2_with fail
          refine (K2.out _).mono ?_
          rintro e w2 ⟨rfl, rfl⟩
          go_wp2_with fail
          refine (K3.out _).mono ?_
          rintro e w3 ⟨rfl, rfl⟩
          go_wp2_with fail
          refine (K6.out _).mono ?_
          rintro e w4 ⟨rfl, hb4⟩
          have hB4 := bt hb1 hb4
          have ho := HO.out
          subst ho
          clear HO
          go_wp2_with fail
          refine (K4.out _).mono ?_
          rintro e w9 ⟨rfl, hb9⟩
          have hB9 := bt hB4 hb9
          obtain ⟨hBw, g0, g1, g2, g3, q0, q1, q2, q3, glt⟩ := KC.out _ hB9
          clear KC
          go_wp2_with fail
          refine bodyPost_ret_by (v := .tuple #[.agg #[.string ln, .string ⟨s2.toArray⟩, .bool true, .string ⟨#[]⟩], .bool true]) ?_ rfl ?_
          · rw [results_cell_tmp rfl]
            go_simp
          · exact ⟨rfl, (((hBw.setCell (p := ⟨w.heap.size, 0, none⟩) (Nat.le_refl _) _).setCell (p := ⟨w.heap.size, 1, none⟩) (Nat.le_refl _) _).setCell (p := ⟨w.heap.size, 2, none⟩) (Nat.le_refl _) _).setCell (p := ⟨w.heap.size, 3, none⟩) (Nat.le_refl _) _⟩
      · simp only [Bool.not_true, Bool.and_false, cond_false] at hV
        have HO := Lib.hid hV; clear hV
        go_enter Tryd.func67, Tryd.ntmps67
        go_wp2_with fail
        rw [HW0.out]
        refine K1.out.mono ?_
        rintro e w1 ⟨rfl, hb1⟩
        go_wp2_with fail
        refine (K2.out _).mono ?_
        rintro e w2 ⟨rfl, rfl⟩
        go_wp2_with fail
        refine (K3.out _).mono ?_
        rintro e w3 ⟨rfl, rfl⟩
        have ho := HO.out
        subst ho
        clear HO
        go_wp2_with fail
        refine (K4.out _).mono ?_
        rintro e w9 ⟨rfl, hb9⟩
        have hB9 := bt hb1 hb9
        obtain ⟨hBw, g0, g1, g2, g3, q0, q1, q2, q3, glt⟩ := KC.out _ hB9
        clear KC
        go_wp2_with fail
        refine bodyPost_ret_by (v := .tuple #[.agg #[.string ln, .string v, .bool true, .string ⟨#[]⟩], .bool true]) ?_ rfl ?_
        · rw [results_cell_tmp rfl]
          go_simp
        · exact ⟨rfl, (((hBw.setCell (p := ⟨w.heap.size, 0, none⟩) (Nat.le_refl _) _).setCell (p := ⟨w.heap.size, 1, none⟩) (Nat.le_refl _) _).setCell (p := ⟨w.heap.size, 2, none⟩) (Nat.le_refl _) _).setCell (p := ⟨w.heap.size, 3, none⟩) (Nat.le_refl _) _⟩
end Go.Proofs.YtfoabdpfadgafaaDoor
