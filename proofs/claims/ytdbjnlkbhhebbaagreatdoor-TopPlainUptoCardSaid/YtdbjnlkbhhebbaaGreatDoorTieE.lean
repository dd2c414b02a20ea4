/- The tie, fact by fact: the rows hold what they ought to. -/
import Derived.Test.YtdbjnlkbhhebbaaGreatDoorTieA
set_option linter.all false
namespace Go.Proofs.YtdbjnlkbhhebbaaGreatDoor
open Go
set_option maxRecDepth 100000

theorem tf_2b : ∀ os tape, (DataW.laidRun Tryz.prog (varsWorld Tryz.prog 400 (varsId Tryz.prog) os tape).memory 8 (tl.map (·.1))).map (fun x => laidRowsB Tryz.prog (varsWorld Tryz.prog 400 (varsId Tryz.prog) os tape).memory x.2) = some true := fun _ _ => by kernel_rfl
end Go.Proofs.YtdbjnlkbhhebbaaGreatDoor
