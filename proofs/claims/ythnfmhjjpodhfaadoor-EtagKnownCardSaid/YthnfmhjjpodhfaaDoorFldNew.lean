/- Rows of fields and of texts that were just made. -/
import Derived.Test.YthnfmhjjpodhfaaDoorRd
namespace Go.Proofs.YthnfmhjjpodhfaaDoor
open Go.RowKit
theorem Rd.newFs (w : World) (fs : List Fld) (T : TypeId) : Rd (some ⟨w.heap.size, 0, none⟩) fs.length 2 (fldsV fs) (w.alloc (.cells (fldsV fs).toArray T)) := by
  refine ⟨fldsV_len fs, fun _ => ⟨w.heap.size, 0, rfl, by simp, fun j u hu => ?_⟩⟩
  rw [Nat.zero_add, World.cell?_alloc_mark]
  simpa using hu
end Go.Proofs.YthnfmhjjpodhfaaDoor
