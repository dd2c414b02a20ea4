/- The library's own mark. -/
import Derived.Test.YthnfmhjjpodhfaaDoorKit
namespace Go.Proofs.YthnfmhjjpodhfaaDoor
open Go.RowKit
set_option maxRecDepth 100000

/-- The library's own mark holds a number. -/
def MaxL (w : World) : Prop := 2 < w.heap.size ∧ ∃ m, w.cell? ⟨2, 0, none⟩ = some (.int .i64 m)
theorem MaxL.of {w : World} (h : ∃ m, w.cell? ⟨2, 0, none⟩ = some (.int .i64 m)) : MaxL w := by
  obtain ⟨m, h⟩ := h
  exact ⟨World.block_lt_of_cell? w _ h, m, h⟩
theorem MaxL.below {w w' : World} (h : MaxL w) (hb : Below w.heap.size w w') : MaxL w' := by
  obtain ⟨h0, m, h⟩ := h
  exact ⟨Nat.lt_of_lt_of_le h0 hb.size, m, (hb.cell (p := ⟨_, 0, none⟩) h0).trans h⟩
end Go.Proofs.YthnfmhjjpodhfaaDoor
