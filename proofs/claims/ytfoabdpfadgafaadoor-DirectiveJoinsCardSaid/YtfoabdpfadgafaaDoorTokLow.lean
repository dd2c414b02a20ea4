/- Small letters and tokens: plain. -/
import Derived.Test.YtfoabdpfadgafaaDoorSpec1
namespace Go.Proofs.YtfoabdpfadgafaaDoor
open Go.RowKit

theorem word_low (c : UInt8) : wordb (lowb c) = wordb c := by
  by_cases h : (decide (65 ≤ c.toNat) && decide (c.toNat ≤ 90)) = true
  · have h1 : lowb c = c + 32 := by unfold lowb; rw [h]; rfl
    have h2 : (c + 32).toNat = c.toNat + 32 := by
      simp at h; rw [UInt8.toNat_add]; simp; omega
    simp at h
    have h3 : letterb c = true := by unfold letterb; simp; omega
    have h4 : letterb (c + 32) = true := by unfold letterb; rw [h2]; simp; omega
    rw [h1]; unfold wordb; rw [h3, h4]; rfl
  · have h' : (decide (65 ≤ c.toNat) && decide (c.toNat ≤ 90)) = false := by simpa using h
    have h1 : lowb c = c := by unfold lowb; rw [h']; rfl
    rw [h1]
theorem token_low (l : List UInt8) : tokenL (lowerL l) = tokenL l := by
  unfold tokenL lowerL
  rw [List.all_map]
  congr 1
  · congr 1; funext c; exact word_low c
  · cases l <;> rfl
end Go.Proofs.YtfoabdpfadgafaaDoor
