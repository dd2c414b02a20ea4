/- The tie, fact by fact: the variables are laid in so many steps. -/
import Derived.Test.YtdbjnlkbhhebbaaGreatDoorTieA
set_option linter.all false
namespace Go.Proofs.YtdbjnlkbhhebbaaGreatDoor
open Go
set_option maxRecDepth 100000

theorem tf_d : ∀ os tape, varsDone Tryz.prog 400 (varsId Tryz.prog) os tape = true := fun _ _ => by kernel_rfl
end Go.Proofs.YtdbjnlkbhhebbaaGreatDoor
