/- The walk of the document's Same (two lists of directives). -/
import Derived.Test.YtfoabdpfadgafaaDoorOwnD
namespace Go.Proofs.YtfoabdpfadgafaaDoor
open Go.RowKit

set_option maxHeartbeats 4000000 in
theorem samed_any (A : Option Addr) (n c : Nat) (xs : List Dir) (B : Option Addr) (m d : Nat) (ys : List Dir) (w : World) (hA : Rd A n 4 (dirsV xs) w) (hB : Rd B m 4 (dirsV ys) w) (h1 : xs.length ≤ 1000001) (h2 : ys.length ≤ 1000001) :
    Calls Tryd.prog 15 #[.slice A n c, .slice B m d] w fun e w' => e = .returned (.bool (xs == ys)) ∧ Below w.heap.size w w' := by
  obtain rfl := hA.dir
  obtain rfl := hB.dir
  have HA := Lib.hid hA; have HB := Lib.hid hB; clear hA hB
  cases hl : ((xs.length : Int) == (ys.length : Int))
  · have nl : ((xs.length : Int) != (ys.length : Int)) = true := by simp [bne, hl]
    have hr : (xs == ys) = false := by
      rw [beq_eq_false_iff_ne]; intro e; subst e; simp at hl
    have HR := Lib.hid hr; clear hr
    go_enter Tryd.func15, Tryd.ntmps15
    go_wp2
    go_ret
    rw [HR.out]
    exact ⟨rfl, Below.refl _ w⟩
  · have nl : ((xs.length : Int) != (ys.length : Int)) = false := by simp [bne, hl]
    have hle : xs.length = ys.length := by simp at hl; omega
    go_enter Tryd.func15, Tryd.ntmps15
    go_wp2
    go_loopw [5] (fun i wr => ∃ k : Nat, k ≤ xs.length ∧ i = .int .i64 k ∧ Below w.heap.size w wr ∧ Hid (xs.take k = ys.take k)) (fun i _ => xs.length - (intOf i).toNat)
    case atStart => exact ⟨0, Nat.zero_le _, rfl, Below.refl _ w, by show _ = _; rfl⟩
    case round =>
      obtain ⟨k, hk, rfl, hbw, HT⟩ := hrel
      by_cases hlt : k < xs.length
      · have hl2 : k < ys.length := by omega
        obtain ⟨b1, o1, rfl, _, c1, c2, c3, c4⟩ := (HA.out.below hbw).dir_at (k := k) hlt
        obtain ⟨b2, o2, rfl, _, d1, d2, d3, d4⟩ := (HB.out.below hbw).dir_at (k := k) hl2
        have t1 : decide ((k : Int) < (ys.length : Int)) = true := by simp; omega
        have t2 : decide ((k : Int) < (xs.length : Int)) = true := by simp; omega
        have hno : xs[k] ≠ ys[k] → Hid ((xs == ys) = false) := by
          intro h; refine Lib.hid ?_
          rw [beq_eq_false_iff_ne]; intro e; subst e; exact h rfl
        have hyes : xs[k] = ys[k] → Hid (xs.take (k + 1) = ys.take (k + 1)) := by
          intro h; refine Lib.hid ?_
          rw [List.take_succ_eq_append_getElem hlt, List.take_succ_eq_append_getElem hl2, HT.out, h]
        generalize xs[k] = f at *
        generalize ys[k] = g at *
        obtain ⟨f1, f2, f3, f4⟩ := f
        obtain ⟨g1, g2, g3, g4⟩ := g
        simp only at c1 c2 c3 c4 d1 d2 d3 d4
        have HNO := Lib.hid hno; have HYES := Lib.hid hyes; clear hno hyes HT hle
        cases e1 : (f1 == g1) <;> cases e2 : (f2 == g2) <;> cases e3 : (f3 == g3) <;> cases e4 : (f4 == g4)
        all_goals first
          | (have HR := HNO.out (by intro h; cases h; simp at e1 e2 e3 e4)
             go_wp2
             go_quiet (fail)
             go_wp2
             go_ret
             rw [HR.out]
             exact ⟨rfl, Go.below_drewN hbw _⟩)
          | (have HN := HYES.out (by rw [beq_iff_eq.1 e1, beq_iff_eq.1 e2, beq_iff_eq.1 e3, beq_iff_eq.1 e4])
             go_wp2
             go_quiet (fail)
             go_wp2
             go_roundw
             case rel => exact ⟨k + 1, by omega, by go_num, Go.below_drewN hbw _, HN⟩
             case measure => simp [intOf]; omega)
      · have hke : k = xs.length := by omega
        subst hke
        have hr : (xs == ys) = true := by
          have := HT.out; rw [List.take_length, hle, List.take_length] at this; rw [this]; simp
        have HR := Lib.hid hr; clear hr
        have t1 : decide ((xs.length : Int) < (xs.length : Int)) = false := by simp
        go_wp2
        go_ret
        rw [HR.out]
        exact ⟨rfl, hbw⟩
end Go.Proofs.YtfoabdpfadgafaaDoor
