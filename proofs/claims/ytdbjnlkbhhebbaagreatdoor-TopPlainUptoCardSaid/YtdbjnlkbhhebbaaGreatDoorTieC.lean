/- The tie, fact by fact: what is laid is what is listed. -/
import Derived.Test.YtdbjnlkbhhebbaaGreatDoorTieA
set_option linter.all false
namespace Go.Proofs.YtdbjnlkbhhebbaaGreatDoor
open Go
set_option maxRecDepth 100000

theorem tf_1 : ∀ os tape, (DataW.laidRun Tryz.prog (varsWorld Tryz.prog 400 (varsId Tryz.prog) os tape).memory 8 (tl.map (·.1))).map (·.1) = some tl := fun _ _ => by kernel_rfl
end Go.Proofs.YtdbjnlkbhhebbaaGreatDoor
