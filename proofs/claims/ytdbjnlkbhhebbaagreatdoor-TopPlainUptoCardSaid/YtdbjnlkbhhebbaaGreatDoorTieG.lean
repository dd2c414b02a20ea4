/- What the card of TopPlain asks of the program, fact by fact. -/
import Derived.Test.YtdbjnlkbhhebbaaGreatDoorRows
import Derived.JoinedOf
import Derived.SevenTiedAt
import GoSem.ClaimSeven
import Derived.JoinedCond
set_option linter.all false
namespace Go.Proofs.YtdbjnlkbhhebbaaGreatDoor
open Go
set_option maxRecDepth 100000
theorem tq0 : Rows.topPlainUptoRow.wfByText (Rows.OpenSpec.upto Rows.topPlainSpec) = true := by kernel_rfl
theorem tq1 : Tryz.pinned.checked.prog.mainIs = some (true, "d9f5e4f7ebb9fa4055eb71a50092acffd26afc64aa9051f406cbe716bc35c000".toList) := by kernel_rfl
theorem tq2 : Tryz.prog.funcNamed "inlay/inlaytop.TopPlain" = some 4 := by kernel_rfl
theorem tq3 : true = Tryz.pinned.checked.prog.looks [] := by kernel_rfl
theorem tq4 : ([38, 23].all fun u => !Tryz.prog.wantsStandIn u) = true := by kernel_rfl
theorem tq6 : Tryz.f4.isInstance Tryz.pinned.checked.prog Rows.topPlainUptoRow.origin Rows.topPlainUptoRow.targs := of_decide_eq_true (by kernel_rfl)
theorem tq7 : Tryz.f4.isWrapper Tryz.pinned.checked.prog Rows.topPlainUptoRow.wrapper Rows.topPlainUptoRow.mainSum := by
  unfold Func.isWrapper; first | (rw [if_pos (by decide +kernel)]; kernel_rfl) | (rw [if_neg (by decide +kernel)]; exact ⟨rfl, rfl⟩)
end Go.Proofs.YtdbjnlkbhhebbaaGreatDoor
