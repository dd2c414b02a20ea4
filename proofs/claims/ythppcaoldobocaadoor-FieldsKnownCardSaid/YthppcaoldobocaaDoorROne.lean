/- The document's word on one line. -/
import Derived.Test.YthppcaoldobocaaDoorParse
import Derived.Test.YthppcaoldobocaaDoorRMay
import Derived.Laws.ResultCell
import Derived.Deep.RegionHeld3
namespace Go.Proofs.YthppcaoldobocaaDoor
open Go.RowKit
set_option maxRecDepth 100000

theorem occ1 (l : List UInt8) (c : UInt8) (i : Nat) : Lib.occAt l [c] i = (l[i]? == some c) := by
  unfold Lib.occAt
  cases h : l.drop i with
  | nil =>
    have : l[i]? = none := by rw [List.getElem?_eq_none_iff]; have := congrArg List.length h; simp at this; omega
    rw [this]; rfl
  | cons x r =>
    have : l[i]? = some x := by
      have := congrArg (·[0]?) h
      simpa using this
    rw [this]
    simp [List.isPrefixOf]
    rw [Bool.eq_iff_iff]; simp; exact eq_comm
theorem at_opt (s : ByteArray) (j : Nat) (h : j < s.size) : s.data.toList[j]? = some s[j] := by
  rw [at_list s j h]; simp
theorem cut58_hit (s : ByteArray) (k : Nat) (hk : k < s.size) (h : s[k] = 58) (hno : ∀ j (hj : j < s.size), j < k → s[j] ≠ 58) : Lib.cut s.data.toList [58] = (s.data.toList.take k, s.data.toList.drop (k + 1), true) := by
  have hi : Lib.index s.data.toList [58] = k := by
    refine Lib.index_first (by rw [← Lib.size_eq]; omega) (by rw [occ1, at_opt s k hk, h]; rfl) (fun j hj => ?_)
    rw [occ1, at_opt s j (by omega), beq_eq_false_iff_ne]
    intro e; exact hno j (by omega) hj (by injection e)
  unfold Lib.cut
  rw [hi, if_pos (by omega)]
  simp
theorem cut58_miss (s : ByteArray) (hno : ∀ j (hj : j < s.size), s[j] ≠ 58) : Lib.cut s.data.toList [58] = (s.data.toList, [], false) := by
  have hi : Lib.index s.data.toList [58] = -1 := by
    refine Lib.index_none (fun j hj => ?_)
    rw [occ1]
    by_cases hl : j < s.size
    · rw [at_opt s j hl, beq_eq_false_iff_ne]
      intro e; exact hno j hl (by injection e)
    · rw [List.getElem?_eq_none (by rw [← Lib.size_eq]; omega)]; rfl
  unfold Lib.cut
  rw [hi, if_neg (by omega)]

set_option maxHeartbeats 2000000 in
theorem rlong_any (n v : ByteArray) (w : World) (hn : n.size ≤ 1000000) (hv : v.size ≤ 1000000) :
    Calls Tryd.prog 44 #[.agg #[.string n, .string v]] w fun e w' => e = .returned (.bool (longL (n.data.toList, v.data.toList))) ∧ Below w.heap.size w w' := by
  have hB : Below w.heap.size w (w.alloc (.cells #[.string n, .string v] 37)) := (Below.refl w.heap.size w).alloc (Nat.le_refl _) _
  have hl : longL (n.data.toList, v.data.toList) = decide ((n.size : Int) + 2 + v.size > 2048) := by
    unfold longL; simp only [← Lib.size_eq]; rw [Bool.eq_iff_iff]; simp; omega
  rw [hl]; clear hl
  go_enter Tryd.func44, Tryd.ntmps44
  go_wp2
  go_ret
  exact ⟨rfl, hB⟩

/-- What one line is. -/
def oneV (l : List UInt8) : Value := bif oneE l == 0 then .tuple #[.agg #[.string ⟨(oneF l).1.toArray⟩, .string ⟨(oneF l).2.toArray⟩], .int .i64 0] else .tuple #[.agg #[.string ⟨#[]⟩, .string ⟨#[]⟩], .int .i64 (oneE l)]
set_option maxHeartbeats 8000000 in
theorem rone_any (s : ByteArray) (w : World) (hs : s.size ≤ 1000000) :
    Calls Tryd.prog 42 #[.string s] w fun e w' => e = .returned (oneV s.data.toList) ∧ Below w.heap.size w w' := by
  have hoe : oneE s.data.toList = bif decide (2048 < s.size) then 3 else bif (!(Lib.cut s.data.toList [58]).2.2) || !mayL (oneF s.data.toList) then 4 else bif longL (oneF s.data.toList) then 3 else 0 := by rw [Lib.size_eq]; rfl
  unfold oneV
  unfold oneF at *
  generalize oneE s.data.toList = oe at *
  obtain ⟨V, hV⟩ : ∃ V, (bif oe == 0 then Value.tuple #[.agg #[.string ⟨(Lib.cut s.data.toList [58]).1.toArray⟩, .string ⟨(trimL (Lib.cut s.data.toList [58]).2.1).toArray⟩], .int .i64 0] else .tuple #[.agg #[.string ⟨#[]⟩, .string ⟨#[]⟩], .int .i64 oe]) = V := ⟨_, rfl⟩
  simp only [hV]
  have hB := Below.refl w.heap.size w
  have hAl := hB.alloc hB.size (.cells #[.string ⟨#[]⟩, .string ⟨#[]⟩] 37)
  by_cases hlong : s.size ≤ 2048
  · rw [show decide (2048 < s.size) = false from by simp; omega, cond_false] at hoe
    have HM := Lib.hid (cut58_miss s); have HH := Lib.hid (cut58_hit s)
    have HOE := Lib.hid hoe; have HV := Lib.hid hV; clear hoe hV
    go_enter Tryd.func42, Tryd.ntmps42
    go_wp2_with fail
    go_loopw [4] (fun i wr => ∃ k : Nat, k ≤ s.size ∧ i = .int .i64 k ∧ Hid (∀ j (hj : j < s.size), j < k → s[j] ≠ 58) ∧ wr = w.alloc (.cells #[.string ⟨#[]⟩, .string ⟨#[]⟩] 37)) (fun i _ => s.size - (intOf i).toNat)
    case atStart => exact ⟨0, Nat.zero_le _, rfl, Lib.hid (fun j _ h => absurd h (by omega)), rfl⟩
    case round =>
      obtain ⟨k, hk, rfl, HN, rfl⟩ := hrel
      have c0 : (w.alloc (.cells #[.string ⟨#[]⟩, .string ⟨#[]⟩] 37)).cell? ⟨w.heap.size, 0, none⟩ = some (.string ⟨#[]⟩) := World.cell?_alloc_mark w _ _ _ 0
      have c1 : (w.alloc (.cells #[.string ⟨#[]⟩, .string ⟨#[]⟩] 37)).cell? ⟨w.heap.size, 1, none⟩ = some (.string ⟨#[]⟩) := World.cell?_alloc_mark w _ _ _ 1
      by_cases hlt : k < s.size
      · cases hq : ((s[k].toNat : Int) != 58)
        · have h58 : s[k] = 58 := by
            simp at hq; rw [← UInt8.toNat_inj]; simp; omega
          have hcut := HH.out k hlt h58 HN.out
          have hoe := HOE.out
          have hv := HV.out
          rw [hcut] at hoe hv
          simp only [Bool.not_true, Bool.false_or] at hoe hv
          have HV := Lib.hid hv; clear hv
          have e1 : ((k : Int) == (s.size : Int)) = false := by simp; omega
          clear HM HH HN HOE hcut
          have HOE := Lib.hid hoe; clear hoe
          have hex : (⟨(trimL (s.data.toList.drop (k + 1))).toArray⟩ : ByteArray) = ⟨(trimL (s.extract (k + 1) s.size).data.toList).toArray⟩ := by
            rw [Lib.extract_data, List.take_of_length_le (by rw [List.length_drop, ← Lib.size_eq]; exact Nat.le_refl _)]
          have hnx : (s.extract 0 k).data.toList = s.data.toList.take k := by rw [Lib.extract_data]; simp
          have k3 := fun w => rtrim_any (s.extract (k + 1) s.size) w (by rw [ByteArray.size_extract]; omega)
          rw [← hex] at k3
          have htl := trimL_le (s.data.toList.drop (k + 1))
          rw [List.length_drop, ← Lib.size_eq] at htl
          have k4 := fun w => rfmay_any (s.extract 0 k) ⟨(trimL (s.data.toList.drop (k + 1))).toArray⟩ w (by rw [ByteArray.size_extract]; omega) (by rw [Lib.size_eq]; show (trimL _).length ≤ _; omega)
          have k5 := fun w => rlong_any (s.extract 0 k) ⟨(trimL (s.data.toList.drop (k + 1))).toArray⟩ w (by rw [ByteArray.size_extract]; omega) (by rw [Lib.size_eq]; show (trimL _).length ≤ _; omega)
          rw [hnx, show (⟨(trimL (s.data.toList.drop (k + 1))).toArray⟩ : ByteArray).data.toList = trimL (s.data.toList.drop (k + 1)) from by simp] at k4 k5
          have hv := HV.out
          have hoe := HOE.out
          have hnx2 : (⟨(s.data.toList.take k).toArray⟩ : ByteArray) = s.extract 0 k := by apply str_eq; rw [hnx]
          simp only [hnx2] at hv
          clear HV HOE hex hnx hnx2 htl
          generalize (⟨(trimL (s.data.toList.drop (k + 1))).toArray⟩ : ByteArray) = tb at *
          generalize mayL (s.data.toList.take k, trimL (s.data.toList.drop (k + 1))) = my at *
          generalize longL (s.data.toList.take k, trimL (s.data.toList.drop (k + 1))) = lg at *
          have K3 := Lib.hid k3; have K4 := Lib.hid k4; have K5 := Lib.hid k5; have HV := Lib.hid hv; have HOE := Lib.hid hoe
          clear k3 k4 k5 hv hoe
          have f0 : (w.alloc (.cells #[.string ⟨#[]⟩, .string ⟨#[]⟩] 37)).frozen? ⟨w.heap.size, 0, none⟩ = false := World.frozen?_alloc_at _ _ _ _ rfl
          have f1 : (w.alloc (.cells #[.string ⟨#[]⟩, .string ⟨#[]⟩] 37)).frozen? ⟨w.heap.size, 1, none⟩ = false := World.frozen?_alloc_at _ _ _ _ rfl
          have kc : ∀ w', Below (w.alloc (.cells #[.string ⟨#[]⟩, .string ⟨#[]⟩] 37)).heap.size (w.alloc (.cells #[.string ⟨#[]⟩, .string ⟨#[]⟩] 37)) w' → Below w.heap.size w w' ∧ w'.cell? ⟨w.heap.size, 0, none⟩ = some (.string ⟨#[]⟩) ∧ w'.cell? ⟨w.heap.size, 1, none⟩ = some (.string ⟨#[]⟩) ∧ w'.frozen? ⟨w.heap.size, 0, none⟩ = false ∧ w'.frozen? ⟨w.heap.size, 1, none⟩ = false ∧ w.heap.size < w'.heap.size := fun w' h => ⟨hAl.trans (h.mono hAl.size), (h.cell (p := ⟨w.heap.size, 0, none⟩) (by simp)).trans c0, (h.cell (p := ⟨w.heap.size, 1, none⟩) (by simp)).trans c1, (h.frozen (p := ⟨w.heap.size, 0, none⟩) (by simp)).trans f0, (h.frozen (p := ⟨w.heap.size, 1, none⟩) (by simp)).trans f1, by have := h.size; simp at this; omega⟩
          have KC := Lib.hid kc; clear kc c0 c1 f0 f1 hB hAl
          obtain ⟨W0, hW0⟩ : ∃ W0, w.alloc (.cells #[.string ⟨#[]⟩, .string ⟨#[]⟩] 37) = W0 := ⟨_, rfl⟩
          rw [hW0] at KC
          go_wp2_with fail
          have hb0 := Below.refl W0.heap.size W0
          have j1 : IntKind.i64.wrap ((k : Int) + 1) = (k : Int) + 1 := IntWalk.i64_in _ (by omega)
          have j2 : (0 : Int) ≤ (k : Int) := by omega
          have j3 : (k : Int) ≤ (s.size : Int) := by omega
          have j4 : (0 : Int) ≤ (k : Int) + 1 := by omega
          have j5 : (k : Int) + 1 ≤ (s.size : Int) := by omega
          have j6 : ((k : Int) + 1).toNat = k + 1 := by omega
          go_region_held3 (fun w' => Below W0.heap.size W0 w') (first | exact hb0 | exact hb0.drew | assumption | (repeat' (first | exact hb0 | (with_reducible refine Below.drew ?_) | (with_reducible refine Below.alloc ?_ (by simp <;> omega) _) | (with_reducible refine Below.setCell ?_ (by simp <;> omega) _)))) (first | (with_reducible refine (K3.out _).mono ?_; rintro e w2 ⟨rfl, rfl⟩) | fail)
          all_goals
            have hA1 := (hb0.alloc hb0.size (.cells #[.string (s.extract 0 k), .string tb] 37)).drew
            have hn0 : (W0.alloc (.cells #[.string (s.extract 0 k), .string tb] 37)).drew.cell? ⟨W0.heap.size, 0, none⟩ = some (.string (s.extract 0 k)) := by rw [World.cell?_drew]; exact World.cell?_alloc_mark W0 _ _ _ 0
            have hn1 : (W0.alloc (.cells #[.string (s.extract 0 k), .string tb] 37)).drew.cell? ⟨W0.heap.size, 1, none⟩ = some (.string tb) := by rw [World.cell?_drew]; exact World.cell?_alloc_mark W0 _ _ _ 1
            have hW1 : W0.heap.size < (W0.alloc (.cells #[.string (s.extract 0 k), .string tb] 37)).drew.heap.size := by simp
            generalize (W0.alloc (.cells #[.string (s.extract 0 k), .string tb] 37)).drew = W1 at *
            go_wp2_with fail
            refine (K4.out _).mono ?_
            rintro e w4 ⟨rfl, hb4⟩
            have hB4 := bt hA1 hb4
            have d0 := (hb4.cell (p := ⟨W0.heap.size, 0, none⟩) hW1).trans hn0
            have d1 := (hb4.cell (p := ⟨W0.heap.size, 1, none⟩) hW1).trans hn1
            have hW4 := Nat.lt_of_lt_of_le hW1 hb4.size
            clear hn0 hn1 hW1 hb4
            cases my
            · have hoe := HOE.out
              simp only [Bool.not_false, cond_true] at hoe
              have hv := HV.out
              rw [hoe] at hv
              have hv2 : V = .tuple #[.agg #[.string ⟨#[]⟩, .string ⟨#[]⟩], .int .i64 4] := hv.symm
              subst hv2
              obtain ⟨hBw, g0, g1, q0, q1, glt⟩ := KC.out _ hB4
              clear hv hoe HV HOE KC
              go_wp2_with fail
              refine bodyPost_ret_by (v := .tuple #[.agg #[.string ⟨#[]⟩, .string ⟨#[]⟩], .int .i64 4]) ?_ rfl ?_
              · rw [results_cell_tmp rfl]
                go_simp
              · exact ⟨rfl, (hBw.setCell (p := ⟨w.heap.size, 0, none⟩) (Nat.le_refl _) _).setCell (p := ⟨w.heap.size, 1, none⟩) (Nat.le_refl _) _⟩
            · go_wp2_with fail
              refine (K5.out _).mono ?_
              rintro e w5 ⟨rfl, hb5⟩
              have hB5 := bt hB4 hb5
              have x0 := (hb5.cell (p := ⟨W0.heap.size, 0, none⟩) hW4).trans d0
              have x1 := (hb5.cell (p := ⟨W0.heap.size, 1, none⟩) hW4).trans d1
              clear d0 d1 hb5 hW4
              obtain ⟨hBw, g0, g1, q0, q1, glt⟩ := KC.out _ hB5
              have hoe := HOE.out
              simp only [Bool.not_true, cond_false] at hoe
              have hv := HV.out
              cases lg
              · rw [hoe] at hv
                have hv2 : V = .tuple #[.agg #[.string (s.extract 0 k), .string tb], .int .i64 0] := hv.symm
                subst hv2
                clear hv hoe HV HOE KC
                go_wp2_with fail
                refine bodyPost_ret_by (v := .tuple #[.agg #[.string (s.extract 0 k), .string tb], .int .i64 0]) ?_ rfl ?_
                · rw [results_cell_tmp rfl]
                  go_simp
                · exact ⟨rfl, (hBw.setCell (p := ⟨w.heap.size, 0, none⟩) (Nat.le_refl _) _).setCell (p := ⟨w.heap.size, 1, none⟩) (Nat.le_refl _) _⟩
              · rw [hoe] at hv
                have hv2 : V = .tuple #[.agg #[.string ⟨#[]⟩, .string ⟨#[]⟩], .int .i64 3] := hv.symm
                subst hv2
                clear hv hoe HV HOE KC
                go_wp2_with fail
                refine bodyPost_ret_by (v := .tuple #[.agg #[.string ⟨#[]⟩, .string ⟨#[]⟩], .int .i64 3]) ?_ rfl ?_
                · rw [results_cell_tmp rfl]
                  go_simp
                · exact ⟨rfl, (hBw.setCell (p := ⟨w.heap.size, 0, none⟩) (Nat.le_refl _) _).setCell (p := ⟨w.heap.size, 1, none⟩) (Nat.le_refl _) _⟩
        · have hn : ∀ j (hj : j < s.size), j < k + 1 → s[j] ≠ 58 := by
            intro j hj hjk
            by_cases h : j = k
            · subst h; intro e; rw [e] at hq; simp at hq
            · exact HN.out j hj (by omega)
          have HN2 := Lib.hid hn; clear hn
          clear c0 c1
          go_wp2_with fail
          go_roundw
          case rel => exact ⟨k + 1, by omega, by go_num, HN2, trivial⟩
          case measure => simp [intOf]; omega
      · have hke : k = s.size := by omega
        subst hke
        have hcut := HM.out (fun j hj => HN.out j hj hj)
        have hoe := HOE.out
        rw [hcut] at hoe
        simp only [Bool.not_false, Bool.true_or, cond_true] at hoe
        have hv := HV.out
        rw [hoe] at hv
        have hv2 : V = .tuple #[.agg #[.string ⟨#[]⟩, .string ⟨#[]⟩], .int .i64 4] := hv.symm
        subst hv2
        clear hv hoe HV
        clear HM HH HN HOE hcut
        go_wp2_with fail
        refine bodyPost_ret_by (v := .tuple #[.agg #[.string ⟨#[]⟩, .string ⟨#[]⟩], .int .i64 4]) ?_ rfl ?_
        · rw [results_cell_tmp rfl]
          go_simp
        · exact ⟨rfl, hAl⟩
  · rw [show decide (2048 < s.size) = true from by simp; omega, cond_true] at hoe
    rw [hoe] at hV
    have hv2 : V = .tuple #[.agg #[.string ⟨#[]⟩, .string ⟨#[]⟩], .int .i64 3] := hV.symm
    subst hv2
    clear hB hV hoe
    go_enter Tryd.func42, Tryd.ntmps42
    go_wp2_with fail
    have c0 : (w.alloc (.cells #[.string ⟨#[]⟩, .string ⟨#[]⟩] 37)).cell? ⟨w.heap.size, 0, none⟩ = some (.string ⟨#[]⟩) := World.cell?_alloc_mark w _ _ _ 0
    have c1 : (w.alloc (.cells #[.string ⟨#[]⟩, .string ⟨#[]⟩] 37)).cell? ⟨w.heap.size, 1, none⟩ = some (.string ⟨#[]⟩) := World.cell?_alloc_mark w _ _ _ 1
    refine bodyPost_ret_by (v := .tuple #[.agg #[.string ⟨#[]⟩, .string ⟨#[]⟩], .int .i64 3]) ?_ rfl ?_
    · rw [results_cell_tmp rfl]
      go_simp
    · exact ⟨rfl, hAl⟩
end Go.Proofs.YthppcaoldobocaaDoor
