/- The walks of the document's Lower, Same. -/
import Derived.Test.YtfoabdpfadgafaaDoorLower
import Derived.Laws.BytesArg
namespace Go.Proofs.YtfoabdpfadgafaaDoor
open Go.RowKit

theorem uByte : (Tryd.prog.info? 5).map (fun i => (i.zero, i.size, i.bytes)) = some (some (.int .u8 0), 1, 1) := by kernel_rfl
/-- A slice of bytes that the call made: it owns these. -/
def OwnB (B : Nat) (v : Value) (l : List UInt8) (w : World) : Prop := w.ownsRow B 5 1 v l.length (l.map fun c => Value.int .u8 c.toNat)
theorem OwnB.conv {B : Nat} {v : Value} {l : List UInt8} {w : World} (h : OwnB B v l w) : (convert 36 9 v).run Tryd.prog w = .ok (.string ⟨l.toArray⟩) w := by
  rcases h.2 with ⟨rfl, h0⟩ | ⟨g, cap, cur, rfl, hg, hb, hnc, hcm, hcs, htake⟩
  · have hl : l = [] := List.eq_nil_of_length_eq_zero h0
    subst hl
    exact run_convert_bytes_nil (P := Tryd.prog) w 36 5 Tryd.underlying36 Tryd.underlying5 0 0 9 Tryd.underlying9
  · have hc := run_convert_bytes_arg (P := Tryd.prog) w 36 5 Tryd.underlying36 Tryd.underlying5 g 0 l.length cap (l.map fun c => (c.toNat : Int)) (by simp) (by
      intro i hi
      have := h.cells (g := g) rfl i (.int .u8 (l[i].toNat : Int)) (by simp [hi])
      rw [show (⟨g, 0, none⟩ : Addr).add i = ⟨g, i, none⟩ from by unfold Addr.add; split <;> simp_all] at this
      rw [Nat.zero_add, this]; simp [List.getD, hi]) 9 Tryd.underlying9
    rw [hc]
    have e : strOfNums (l.map fun c => (c.toNat : Int)) = ⟨l.toArray⟩ := by
      apply str_eq; rw [strOfNums_data, List.map_map]
      show List.map _ l = l
      conv => rhs; rw [← List.map_id l]
      apply List.map_congr_left; intro c _; simp
    rw [e]

set_option maxRecDepth 100000 in
set_option maxHeartbeats 2000000 in
theorem rlower_wide (s : ByteArray) (w : World) (hs : s.size ≤ 140737488351232) :
    Calls Tryd.prog 70 #[.string s] w fun e w' => e = .returned (.string ⟨(lowerL s.data.toList).toArray⟩) ∧ Below w.heap.size w w' := by
  obtain ⟨i0, hi, hz0, hz1, hz2⟩ := info_parts uByte
  go_enter Tryd.func70, Tryd.ntmps70
  go_wp2
  go_loopw [4, 3] (fun i b wr => ∃ k : Nat, k ≤ s.size ∧ i = .int .i64 k ∧ OwnB w.heap.size b (lowerL (s.data.toList.take k)) wr ∧ Below w.heap.size w wr) (fun i _ _ => s.size - (intOf i).toNat)
  case atStart => exact ⟨0, Nat.zero_le _, rfl, World.ownsRow_nil _ _ _ _, Below.refl _ _⟩
  case round =>
    obtain ⟨k, hk, rfl, hO, hbw⟩ := hrel
    have HO := Lib.hid hO; clear hO
    by_cases hlt : k < s.size
    · have hu := u8_lt s[k]
      obtain ⟨n, hn, hn0, hn255⟩ : ∃ n : Int, ((lowb s[k]).toNat : Int) = n ∧ 0 ≤ n ∧ n < 256 := ⟨_, rfl, by omega, u8_lt _⟩
      have hnext : lowerL (s.data.toList.take (k + 1)) = lowerL (s.data.toList.take k) ++ [lowb s[k]] := by
        rw [take_snoc s k hlt]; unfold lowerL; simp
      have hlen : (lowerL (s.data.toList.take k)).length < 140737488351232 := by unfold lowerL; rw [List.length_map, List.length_take, ← Lib.size_eq]; omega
      have HN := Lib.hid hnext; have Hn := Lib.hid hn; clear hnext hn
      have hown := HO.out
      unfold OwnB at hown
      have HW := Lib.hid hown; clear hown
      have key : ∀ (v' : Value) (w1 : World), w1.ownsRow w.heap.size 5 1 v' ((lowerL (s.data.toList.take k)).length + 1) ((lowerL (s.data.toList.take k)).map (fun c => Value.int .u8 c.toNat) ++ [.int .u8 n]) → OwnB w.heap.size v' (lowerL (s.data.toList.take (k + 1))) w1 := by
        intro v' w1 h; unfold OwnB; rw [HN.out, List.length_append, List.length_singleton, List.map_append]; rw [← Hn.out] at h; exact h
      have HK := Lib.hid key; clear key
      cases c1 : decide (65 ≤ (s[k].toNat : Int)) <;> cases c2 : decide ((s[k].toNat : Int) ≤ 90)
      · exfalso; simp at c1 c2; omega
      · have e : n = (s[k].toNat : Int) := by rw [← Hn.out, lowb_no s[k] (by rw [c1, c2]; rfl)]
        subst e
        go_wp2_with (at_builtin; refine wpList_append_own _ rfl _ _ 36 rfl w.heap.size 5 i0 (.int .u8 0) 1 1 Tryd.underlying36 hi hz0 hz1 hz2 rfl (by decide) _ _ _ rfl (HW.out.alloc _) ⟨wr.heap.size, 0, none⟩ 1 1 [.int .u8 (s[k].toNat : Int)] rfl rfl ?c1 ?c2 ?c3 ?c4 ?c5 ?_)
        case c1 =>
          intro j u hj
          match j, hj with
          | 0, hj => simp at hj; subst hj; simp [Addr.add]
        case c2 => intro u hu; simp at hu; subst hu; rfl
        case c3 => unfold maxLen; omega
        case c4 => omega
        case c5 => have := hbw.size; simp; omega
        intro v' w1 hown' hgrow _
        have hO2 := HK.out v' w1 hown'
        have hb2 : Below w.heap.size w w1 := (hbw.alloc hbw.size _).grown hgrow (by have := hbw.size; simp; omega) (fun j hj => (HW.out.lt j hj).1)
        have HO2 := Lib.hid hO2; clear hO2 hown' hgrow
        go_wp2
        go_roundw
        case rel => exact ⟨k + 1, by omega, by go_num, HO2.out, hb2⟩
        case measure => simp [intOf]; omega
      · have e : n = (s[k].toNat : Int) := by rw [← Hn.out, lowb_no s[k] (by rw [c1, c2]; rfl)]
        subst e
        go_wp2_with (at_builtin; refine wpList_append_own _ rfl _ _ 36 rfl w.heap.size 5 i0 (.int .u8 0) 1 1 Tryd.underlying36 hi hz0 hz1 hz2 rfl (by decide) _ _ _ rfl (HW.out.alloc _) ⟨wr.heap.size, 0, none⟩ 1 1 [.int .u8 (s[k].toNat : Int)] rfl rfl ?c1 ?c2 ?c3 ?c4 ?c5 ?_)
        case c1 =>
          intro j u hj
          match j, hj with
          | 0, hj => simp at hj; subst hj; simp [Addr.add]
        case c2 => intro u hu; simp at hu; subst hu; rfl
        case c3 => unfold maxLen; omega
        case c4 => omega
        case c5 => have := hbw.size; simp; omega
        intro v' w1 hown' hgrow _
        have hO2 := HK.out v' w1 hown'
        have hb2 : Below w.heap.size w w1 := (hbw.alloc hbw.size _).grown hgrow (by have := hbw.size; simp; omega) (fun j hj => (HW.out.lt j hj).1)
        have HO2 := Lib.hid hO2; clear hO2 hown' hgrow
        go_wp2
        go_roundw
        case rel => exact ⟨k + 1, by omega, by go_num, HO2.out, hb2⟩
        case measure => simp [intOf]; omega
      · have e : n = (s[k].toNat : Int) + 32 := by rw [← Hn.out, lowb_yes s[k] c1 c2]
        subst e
        go_wp2_with (at_builtin; refine wpList_append_own _ rfl _ _ 36 rfl w.heap.size 5 i0 (.int .u8 0) 1 1 Tryd.underlying36 hi hz0 hz1 hz2 rfl (by decide) _ _ _ rfl (HW.out.alloc _) ⟨wr.heap.size, 0, none⟩ 1 1 [.int .u8 ((s[k].toNat : Int) + 32)] rfl rfl ?c1 ?c2 ?c3 ?c4 ?c5 ?_)
        case c1 =>
          intro j u hj
          match j, hj with
          | 0, hj => simp at hj; subst hj; simp [Addr.add]
        case c2 => intro u hu; simp at hu; subst hu; rfl
        case c3 => unfold maxLen; omega
        case c4 => omega
        case c5 => have := hbw.size; simp; omega
        intro v' w1 hown' hgrow _
        have hO2 := HK.out v' w1 hown'
        have hb2 : Below w.heap.size w w1 := (hbw.alloc hbw.size _).grown hgrow (by have := hbw.size; simp; omega) (fun j hj => (HW.out.lt j hj).1)
        have HO2 := Lib.hid hO2; clear hO2 hown' hgrow
        go_wp2
        go_roundw
        case rel => exact ⟨k + 1, by omega, by go_num, HO2.out, hb2⟩
        case measure => simp [intOf]; omega
    · have hc := HO.out.conv
      have hke : s.data.toList.take k = s.data.toList := take_all s k (by omega)
      rw [hke] at hc
      go_wp2
      go_ret
      exact ⟨rfl, hbw⟩
theorem rlower_any (s : ByteArray) (w : World) (hs : s.size ≤ 1000000) :
    Calls Tryd.prog 70 #[.string s] w fun e w' => e = .returned (.string ⟨(lowerL s.data.toList).toArray⟩) ∧ Below w.heap.size w w' := rlower_wide s w (by omega)
end Go.Proofs.YtfoabdpfadgafaaDoor
