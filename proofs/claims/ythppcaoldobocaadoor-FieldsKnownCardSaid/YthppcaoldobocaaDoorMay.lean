/- May a field be: the plain law and the walks. -/
import Derived.Test.YthppcaoldobocaaDoorToken
import Derived.Test.YthppcaoldobocaaDoorRTok
import Derived.Test.YthppcaoldobocaaDoorRTrim
import Derived.Test.YthppcaoldobocaaDoorRd
namespace Go.Proofs.YthppcaoldobocaaDoor
open Go.RowKit
set_option maxRecDepth 100000

def fvalb (c : UInt8) : Bool := !((decide (c.toNat < 32) && c.toNat != 9) || c.toNat == 127)
def fvalL (v : List UInt8) : Bool := v.all fvalb && (trimL v == v)
def mayL (f : Fld) : Bool := tokenL f.1 && fvalL f.2

theorem fval_no {c : UInt8} (h : fvalb c = false) : (decide ((c.toNat : Int) < 32) = true ∧ ((c.toNat : Int) != 9) = true ∧ ((c.toNat : Int) == 127) = false) ∨ (decide ((c.toNat : Int) < 32) = false ∧ ((c.toNat : Int) == 127) = true) := by
  simp [fvalb] at h
  by_cases h2 : (c.toNat : Int) = 127
  · right; simp; omega
  · left; simp; omega
theorem fval_yes {c : UInt8} (h : fvalb c = true) : ((c.toNat : Int) == 127) = false ∧ ((decide ((c.toNat : Int) < 32) = true ∧ ((c.toNat : Int) != 9) = false) ∨ decide ((c.toNat : Int) < 32) = false) := by
  simp [fvalb] at h
  refine ⟨by simp; omega, ?_⟩
  by_cases h2 : (c.toNat : Int) < 32
  · left; simp; omega
  · right; simp; omega

set_option maxHeartbeats 2000000 in
theorem fvalue_any (s : ByteArray) (w : World) (hs : s.size ≤ 1000000) :
    Calls Tryd.prog 68 #[.string s] w fun e w' => e = .returned (.bool (fvalL s.data.toList)) ∧ Below w.heap.size w w' := by
  have hB : ∀ k (h : k < s.size), fvalb s[k] = false → fvalL s.data.toList = false := by
    intro k h hk; unfold fvalL; rw [all_bad fvalb s k h hk]; rfl
  have hQ : ∀ k, (s.data.toList.take k).all fvalb = true → s.size ≤ k → fvalL s.data.toList = (trimL s.data.toList == s.data.toList) := by
    intro k h hk; rw [take_all s k hk] at h; unfold fvalL; rw [h]; rfl
  have hT := fun w => trim_any s w hs
  have HB := Lib.hid hB; have HQ := Lib.hid hQ; have HT := Lib.hid hT
  clear hB hQ hT
  generalize fvalL s.data.toList = out at *
  generalize trimL s.data.toList = tl at *
  have hbb := Below.refl w.heap.size w
  go_enter Tryd.func68, Tryd.ntmps68
  go_wp2
  go_loop [7] (fun i => ∃ k : Nat, k ≤ s.size ∧ i = .int .i64 k ∧ Hid ((s.data.toList.take k).all fvalb = true)) (fun i => s.size - (intOf i).toNat)
  case atStart => exact ⟨0, Nat.zero_le _, rfl, by show _ = _; simp⟩
  case round =>
    obtain ⟨k, hk, rfl, Hall⟩ := hrel
    by_cases hlt : k < s.size
    · cases hp : fvalb s[k]
      · have hf := HB.out k hlt hp
        have Hf := Lib.hid hf; clear hf
        rcases fval_no hp with ⟨c1, c2, c3⟩ | ⟨c1, c3⟩
        all_goals
          clear hp
          go_wp2
          go_ret
          exact ⟨by rw [Hf.out]; rfl, hbb⟩
      · have hn : (s.data.toList.take (k + 1)).all fvalb = true := by rw [all_snoc fvalb s k hlt, Hall.out, hp]; rfl
        have Hn := Lib.hid hn; clear hn
        obtain ⟨c3, ⟨c1, c2⟩ | c1⟩ := fval_yes hp
        all_goals
          clear hp
          go_wp2
          go_round
          case rel => exact ⟨k + 1, by omega, by go_num, Hn⟩
          case measure => simp [intOf]; omega
    · have hf := HQ.out k Hall.out (by omega)
      have Hf := Lib.hid hf; clear hf
      go_wp2_with fail
      refine (HT.out _).mono ?_
      rintro e w1 ⟨rfl, hb1⟩
      go_wp2
      go_ret
      exact ⟨by rw [Hf.out]; simp [Lib.toList_data], hb1⟩

set_option maxHeartbeats 2000000 in
theorem fmay_any (n v : ByteArray) (w : World) (hn : n.size ≤ 1000000) (hv : v.size ≤ 1000000) :
    Calls Tryd.prog 40 #[.agg #[.string n, .string v]] w fun e w' => e = .returned (.bool (mayL (n.data.toList, v.data.toList))) ∧ Below w.heap.size w w' := by
  have k1 := fun w => token_any n w hn
  have k2 := fun w => fvalue_any v w hv
  unfold mayL
  simp only
  generalize tokenL n.data.toList = t at *
  generalize fvalL v.data.toList = f at *
  have K1 := Lib.hid k1; have K2 := Lib.hid k2; clear k1 k2
  have hB : Below w.heap.size w (w.alloc (.cells #[.string n, .string v] 37)) := (Below.refl w.heap.size w).alloc (Nat.le_refl _) _
  cases t
  · go_enter Tryd.func40, Tryd.ntmps40
    go_wp2_with fail
    refine (K1.out _).mono ?_
    rintro e w1 ⟨rfl, rfl⟩
    go_wp2
    go_ret
    exact ⟨rfl, hB⟩
  · go_enter Tryd.func40, Tryd.ntmps40
    go_wp2_with fail
    refine (K1.out _).mono ?_
    rintro e w1 ⟨rfl, rfl⟩
    go_wp2_with fail
    refine (K2.out _).mono ?_
    rintro e w1 ⟨rfl, hb1⟩
    go_wp2
    go_ret
    exact ⟨by simp, hB.trans (hb1.mono (by simp))⟩
end Go.Proofs.YthppcaoldobocaaDoor
