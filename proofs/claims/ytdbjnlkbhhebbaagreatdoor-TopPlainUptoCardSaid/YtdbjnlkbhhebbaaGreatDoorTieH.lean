/- No function of the program starts a goroutine: so many at a time. -/
import Derived.Test.YtdbjnlkbhhebbaaGreatDoorTieG
set_option linter.all false
namespace Go.Proofs.YtdbjnlkbhhebbaaGreatDoor
open Go
set_option maxRecDepth 100000
theorem tg0 : ((List.range' 0 60).all fun i => !((Tryz.pinned.checked.prog.funcs[i]?).any Func.goes)) = true := by kernel_rfl
theorem tg1 : ((List.range' 60 60).all fun i => !((Tryz.pinned.checked.prog.funcs[i]?).any Func.goes)) = true := by kernel_rfl
theorem tg2 : ((List.range' 120 60).all fun i => !((Tryz.pinned.checked.prog.funcs[i]?).any Func.goes)) = true := by kernel_rfl
theorem tg3 : ((List.range' 180 60).all fun i => !((Tryz.pinned.checked.prog.funcs[i]?).any Func.goes)) = true := by kernel_rfl
theorem tg4 : ((List.range' 240 60).all fun i => !((Tryz.pinned.checked.prog.funcs[i]?).any Func.goes)) = true := by kernel_rfl
theorem tg5 : ((List.range' 300 60).all fun i => !((Tryz.pinned.checked.prog.funcs[i]?).any Func.goes)) = true := by kernel_rfl
theorem tg6 : ((List.range' 360 60).all fun i => !((Tryz.pinned.checked.prog.funcs[i]?).any Func.goes)) = true := by kernel_rfl
theorem tg7 : ((List.range' 420 60).all fun i => !((Tryz.pinned.checked.prog.funcs[i]?).any Func.goes)) = true := by kernel_rfl
theorem tg8 : ((List.range' 480 60).all fun i => !((Tryz.pinned.checked.prog.funcs[i]?).any Func.goes)) = true := by kernel_rfl
theorem tg_size : decide (Tryz.pinned.checked.prog.funcs.size ≤ 540) = true := by kernel_rfl
theorem tg_in {a n i : Nat} (h : ((List.range' a n).all fun i => !((Tryz.pinned.checked.prog.funcs[i]?).any Func.goes)) = true) (h1 : a ≤ i) (h2 : i < a + n) : (Tryz.pinned.checked.prog.funcs[i]?).any Func.goes = false := by
  have h3 := List.all_eq_true.1 h i (List.mem_range'_1.2 ⟨h1, h2⟩)
  simpa using h3
theorem tg_all (i : Nat) : (Tryz.pinned.checked.prog.funcs[i]?).any Func.goes = false := by
  by_cases h0 : i < 60
  · exact tg_in tg0 (by omega) (by omega)
  by_cases h1 : i < 120
  · exact tg_in tg1 (by omega) (by omega)
  by_cases h2 : i < 180
  · exact tg_in tg2 (by omega) (by omega)
  by_cases h3 : i < 240
  · exact tg_in tg3 (by omega) (by omega)
  by_cases h4 : i < 300
  · exact tg_in tg4 (by omega) (by omega)
  by_cases h5 : i < 360
  · exact tg_in tg5 (by omega) (by omega)
  by_cases h6 : i < 420
  · exact tg_in tg6 (by omega) (by omega)
  by_cases h7 : i < 480
  · exact tg_in tg7 (by omega) (by omega)
  by_cases h8 : i < 540
  · exact tg_in tg8 (by omega) (by omega)
  have hs := of_decide_eq_true tg_size
  rw [Array.getElem?_eq_none (by omega)]
  rfl
theorem goes_no (f : FuncId) (P : Program) (h : ∀ i : Nat, (P.funcs[i]?).any Func.goes = false) : P.goes f = false := by
  unfold Program.goes
  have h1 : ((P.closure f).any fun g => (P.funcs[g]?).any Func.goes) = false := by
    generalize P.closure f = l
    rw [List.any_eq_false]
    intro g _ hg
    rw [h g] at hg
    cases hg
  have h2 : P.funcs.any Func.goes = false := by
    rw [Array.any_eq_false]
    intro i hi hg
    have h3 := h i
    rw [Array.getElem?_eq_getElem hi] at h3
    simp only [Option.any_some] at h3
    rw [h3] at hg
    cases hg
  rw [h1, h2, Bool.and_false, Bool.or_false]
theorem goesAt_no (P : Program) (s : String) (f : FuncId) (hn : P.funcNamed s = some f) (h : ∀ i : Nat, (P.funcs[i]?).any Func.goes = false) : false = P.goesAt .entering s := by
  unfold Program.goesAt Program.goesFrom
  rw [hn, Option.any_some, goes_no f P h]
  rfl
theorem tq5 : false = Rows.topPlainUptoRow.goesBy Tryz.pinned.checked.prog :=
  goesAt_no Tryz.pinned.checked.prog "inlay/inlaytop.TopPlain" 4 tq2 tg_all
end Go.Proofs.YtdbjnlkbhhebbaaGreatDoor
