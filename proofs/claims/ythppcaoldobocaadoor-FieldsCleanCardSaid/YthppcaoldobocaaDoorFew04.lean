/- The walk of the law's few (layer 04). -/
import Derived.Test.YthppcaoldobocaaDoorSumF
import Derived.Deep.RegionHeld3
import Derived.IntWalk
namespace Go.Proofs.YthppcaoldobocaaDoor
open Go.RowKit
set_option maxRecDepth 100000

def few04 (xs : List Fld) : Bool := decide (xs.length ≤ 80) && decide (sumF xs ≤ 12000)
theorem few04_yes {xs : List Fld} (h : few04 xs = true) : xs.length ≤ 80 ∧ sumF xs ≤ 12000 := by
  unfold few04 at h; simpa using h

set_option maxHeartbeats 4000000 in
theorem few04_any (A : Option Addr) (n c : Nat) (xs : List Fld) (w : World) (hr : Rd A n 2 (fldsV xs) w) (hn : n ≤ 140737488355328) (hs : ∀ f ∈ xs, f.1.length ≤ 140737488355328 ∧ f.2.length ≤ 140737488355328) :
    Calls Tryd.prog 15 #[.slice A n c] w fun e w' => e = .returned (.bool (few04 xs)) ∧ Below w.heap.size w w' := by
  obtain rfl := hr.fld
  have hB := Below.refl w.heap.size w
  by_cases h80 : xs.length ≤ 80
  · have hbad : ∀ k (h : k < xs.length), 12000 < sumF (xs.take k) + (xs[k].1.length + xs[k].2.length) → few04 xs = false := by
      intro k h h1
      have h2 := sumF_take xs (k + 1)
      rw [sumF_snoc xs k h] at h2
      unfold few04
      rw [show decide (sumF xs ≤ 12000) = false from by simp; omega, Bool.and_false]
    have hgood : sumF (xs.take xs.length) ≤ 12000 → few04 xs = true := by
      intro h; rw [List.take_length] at h; unfold few04; simp; exact ⟨h80, h⟩
    have hsn := sumF_snoc xs
    have h00 : sumF (xs.take 0) = 0 := rfl
    have HR := Lib.hid hr; have HS := Lib.hid hs; have HBAD := Lib.hid hbad; have HG := Lib.hid hgood; have HSN := Lib.hid hsn; have H00 := Lib.hid h00; clear hr hs hbad hgood hsn h00
    generalize few04 xs = out at *
    go_enter Tryd.func15, Tryd.ntmps15
    go_wp2
    go_loopw [4, 3] (fun i x wr => ∃ (k : Nat) (r : Int), k ≤ xs.length ∧ i = .int .i64 k ∧ x = .int .i64 r ∧ Hid (r = 12000 - (sumF (xs.take k) : Int)) ∧ 0 ≤ r ∧ r ≤ 12000 ∧ Below w.heap.size w wr) (fun i _ _ => xs.length - (intOf i).toNat)
    case atStart => exact ⟨0, 12000, Nat.zero_le _, rfl, rfl, Lib.hid (by rw [H00.out]; rfl), by omega, by omega, hB⟩
    case round =>
      clear hB H00
      obtain ⟨k, r, hk, rfl, rfl, HE, hr0, hr1, hbw⟩ := hrel
      by_cases hlt : k < xs.length
      · obtain ⟨b, o, rfl, hl, c1, c2⟩ := HR.out.fld_at (k := k) hlt
        have hf := HS.out xs[k] (List.getElem_mem _)
        have hbd := HBAD.out k hlt
        have hsn := HSN.out k hlt
        have he := HE.out
        generalize xs[k] = f at *
        obtain ⟨f1, f2⟩ := f
        simp only at c1 c2 hf hbd hsn
        have hn2 : sumF (xs.take (k + 1)) = sumF (xs.take k) + (f1.length + f2.length) := hsn
        clear hsn
        obtain ⟨s1, hs1⟩ : ∃ s1, sumF (xs.take (k + 1)) = s1 := ⟨_, rfl⟩
        rw [hs1] at hn2
        have HS1 := Lib.hid hs1; clear hs1
        generalize sumF (xs.take k) = s0 at *
        have d1 := (hbw.cell (p := ⟨b, o + k * 2, none⟩) hl).trans c1
        have d2 := (hbw.cell (p := ⟨b, o + k * 2 + 1, none⟩) hl).trans c2
        clear c1 c2 HBAD HSN HG HE
        have z1 : (⟨f1.toArray⟩ : ByteArray).size = f1.length := by rw [Lib.size_eq]
        have z2 : (⟨f2.toArray⟩ : ByteArray).size = f2.length := by rw [Lib.size_eq]
        obtain ⟨hf1, hf2⟩ := hf
        generalize f1.length = n1 at *
        generalize f2.length = n2 at *
        have hwid : (0 : Int) ≤ n1 ∧ (0 : Int) ≤ n2 := by omega
        cases t1 : decide ((n1 : Int) > r)
        · have q1 : IntKind.i64.wrap (r - (n1 : Int)) = r - (n1 : Int) := IntWalk.i64_in _ (by simp at t1; omega)
          cases t2 : decide ((n2 : Int) > r - (n1 : Int))
          · have q2 : IntKind.i64.wrap (r - (n1 : Int) - (n2 : Int)) = r - (n1 : Int) - (n2 : Int) := IntWalk.i64_in _ (by simp at t1 t2; omega)
            have hnx : r - (n1 : Int) - (n2 : Int) = 12000 - (s1 : Int) := by omega
            have hg0 : 0 ≤ r - (n1 : Int) - (n2 : Int) := by simp at t1 t2; omega
            have HNX := Lib.hid hnx; have HG0 := Lib.hid hg0
            clear hbd he hnx hn2 hg0
            go_wp2
            go_quiet (fail)
            go_wp2
            go_quiet (fail)
            go_wp2
            go_roundw
            case rel => exact ⟨k + 1, _, by omega, by go_num, rfl, by rw [HS1.out]; exact HNX, HG0.out, by omega, Go.below_drewN hbw _⟩
            case measure => simp [intOf]; omega
          · have hx := hbd (by simp at t1 t2; omega)
            have Hx := Lib.hid hx
            clear hx hbd he hn2
            go_wp2
            go_quiet (fail)
            go_wp2
            go_ret
            rw [Hx.out]
            exact ⟨rfl, Go.below_drewN hbw _⟩
        · have hx := hbd (by simp at t1; omega)
          have Hx := Lib.hid hx
          clear hx hbd he hn2
          go_wp2
          go_quiet (fail)
          go_wp2
          go_ret
          rw [Hx.out]
          exact ⟨rfl, Go.below_drewN hbw _⟩
      · have hke : k = xs.length := by omega
        subst hke
        have hx := HG.out (by have := HE.out; omega)
        have Hx := Lib.hid hx; clear hx HE
        go_wp2
        go_ret
        rw [Hx.out]
        exact ⟨rfl, hbw⟩
  · have hx : few04 xs = false := by unfold few04; rw [show decide (xs.length ≤ 80) = false from by simpa using h80, Bool.false_and]
    rw [hx]
    clear hx hs hr
    go_enter Tryd.func15, Tryd.ntmps15
    go_wp2
    go_ret
    exact ⟨rfl, hB⟩
end Go.Proofs.YthppcaoldobocaaDoor
