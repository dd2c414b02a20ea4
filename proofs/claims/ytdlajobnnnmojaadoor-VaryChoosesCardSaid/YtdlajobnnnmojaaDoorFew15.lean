/- The walk of the law's few (layer 15). -/
import Derived.Test.YtdlajobnnnmojaaDoorFieldSpec
namespace Go.Proofs.YtdlajobnnnmojaaDoor
open Go.RowKit

def fit15 (f : Fld) : Bool := decide (f.1.length + f.2.length ≤ 1000)
def few15 (xs : List Fld) : Bool := (xs.take 50).all fit15 && decide (xs.length ≤ 40)
theorem few15_yes {xs : List Fld} (h : few15 xs = true) : xs.length ≤ 40 ∧ ∀ f ∈ xs, f.1.length ≤ 1000 ∧ f.2.length ≤ 1000 := by
  unfold few15 at h
  rw [Bool.and_eq_true] at h
  have h2 : xs.length ≤ 40 := of_decide_eq_true h.2
  refine ⟨h2, fun f hf => ?_⟩
  rw [List.take_of_length_le (by omega)] at h
  have := of_decide_eq_true (List.all_eq_true.1 h.1 f hf)
  omega
theorem all_takeL {α : Type} (p : α → Bool) (xs : List α) (k : Nat) (h : k < xs.length) : (xs.take (k + 1)).all p = ((xs.take k).all p && p xs[k]) := by
  rw [List.take_succ_eq_append_getElem h, List.all_append]; simp

set_option maxRecDepth 100000 in
set_option maxHeartbeats 2000000 in
theorem few15_any (A : Option Addr) (n c : Nat) (xs : List Fld) (w : World) (hr : Rd A n 2 (fldsV xs) w) (hn : n ≤ 140737488355328) (hs : ∀ f ∈ xs, f.1.length ≤ 140737488355328 ∧ f.2.length ≤ 140737488355328) :
    Calls Tryd.prog 8 #[.slice A n c] w fun e w' => e = .returned (.bool (few15 xs)) ∧ Below w.heap.size w w' := by
  obtain rfl := hr.fld
  have hB := Below.refl w.heap.size w
  have hbad : ∀ k (h : k < xs.length), k < 50 → fit15 xs[k] = false → few15 xs = false := by
    intro k h h5 hf
    unfold few15
    have : (xs.take 50).all fit15 = false := by
      rw [List.all_eq_false]
      exact ⟨xs[k], by rw [List.mem_take_iff_getElem]; exact ⟨k, by omega, rfl⟩, by simp [hf]⟩
    rw [this]; rfl
  have hgood : ∀ k, (xs.take k).all fit15 = true → k = xs.length ∨ k = 50 → few15 xs = decide (xs.length ≤ 40) := by
    intro k h hk
    unfold few15
    rcases hk with rfl | rfl
    · by_cases h5 : xs.length ≤ 50
      · rw [List.take_of_length_le h5, ← List.take_length (l := xs), h]; simp
      · have : decide (xs.length ≤ 40) = false := by simp; omega
        rw [this, Bool.and_false]
    · rw [h]; simp
  have HR := Lib.hid hr; have HS := Lib.hid hs; have HBAD := Lib.hid hbad; have HG := Lib.hid hgood; clear hr hs hbad hgood
  generalize few15 xs = out at *
  go_enter Tryd.func8, Tryd.ntmps8
  go_wp2
  go_loopw [3] (fun i wr => ∃ k : Nat, k ≤ xs.length ∧ k ≤ 50 ∧ i = .int .i64 k ∧ Hid ((xs.take k).all fit15 = true) ∧ Below w.heap.size w wr) (fun i _ => xs.length - (intOf i).toNat)
  case atStart => exact ⟨0, Nat.zero_le _, by omega, rfl, Lib.hid rfl, hB⟩
  case round =>
    clear hB
    obtain ⟨k, hk, hk5, rfl, HA, hbw⟩ := hrel
    by_cases hlt : k < xs.length
    · by_cases hlt5 : k < 50
      · obtain ⟨b, o, rfl, hl, c1, c2⟩ := (HR.out.below hbw).fld_at (k := k) hlt
        have hf := HS.out xs[k] (List.getElem_mem _)
        have hsn := all_takeL fit15 xs k hlt
        rw [HA.out, Bool.true_and] at hsn
        have hbd := HBAD.out k hlt hlt5
        generalize xs[k] = f at *
        obtain ⟨f1, f2⟩ := f
        simp only at c1 c2 hf
        have t5 : decide ((k : Int) < 50) = true := by simp; omega
        have tl : decide ((k : Int) < (xs.length : Int)) = true := by simp; omega
        cases hq : fit15 (f1, f2)
        · have hx := hbd hq
          have Hx := Lib.hid hx
          have h1000 : 1000 < f1.length + f2.length := by unfold fit15 at hq; simpa using hq
          clear hx hbd hsn hq HA
          go_wp2
          go_quiet (fail)
          go_wp2
          go_ret
          rw [Hx.out]
          exact ⟨rfl, Go.below_drewN hbw _⟩
        · rw [hq] at hsn
          have Hx := Lib.hid hsn
          have h1000 : ¬ 1000 < f1.length + f2.length := by unfold fit15 at hq; simpa using hq
          clear hbd hsn hq HA
          go_wp2
          go_quiet (fail)
          go_wp2
          go_roundw
          case rel => exact ⟨k + 1, by omega, by omega, by go_num, Hx, Go.below_drewN hbw _⟩
          case measure => simp [intOf]; omega
      · have hx := HG.out k HA.out (by omega)
        have Hx := Lib.hid hx; clear hx
        go_wp2
        go_ret
        rw [Hx.out]
        exact ⟨by simp; omega, hbw⟩
    · have hx := HG.out k HA.out (by omega)
      have Hx := Lib.hid hx; clear hx
      go_wp2
      go_ret
      rw [Hx.out]
      exact ⟨by simp; omega, hbw⟩
end Go.Proofs.YtdlajobnnnmojaaDoor
