/- What the listed tables and the form's mark give the dates' walks. -/
import Derived.Test.YthnfmhjjpodhfaaDoorDate3
import Derived.Test.YthnfmhjjpodhfaaDoorTabOf
namespace Go.Proofs.YthnfmhjjpodhfaaDoor
open Go.RowKit
set_option maxRecDepth 100000

theorem maxL_of {w : World} (h : w.ShapedOpen Tryd.prog) : MaxL w :=
  MaxL.of (Go.Proofs.cell_of_shapedOpen_int (zero := #[.int .i64 0]) (t := 3) h (of_decide_eq_true (by kernel_rfl)) (by kernel_rfl) rfl (by kernel_rfl) (by kernel_rfl) Tryd.underlying3)
theorem spaces_of {W : World} {l : List (String × DataW Unit)} (hp : (l.all fun x => x.2.handleName?.isNone) = true) (hm : ("strings.asciiSpace", Lib.tabData .u8 Lib.asciiSpaceTab) ∈ l) (h : laidMetH Tryd.prog l W) : Lib.TabIs Tryd.prog W "strings.asciiSpace" .u8 Lib.asciiSpaceTab := by
  rw [MakeChecks.laidMetH_plain _ _ _ hp] at h
  exact tab_of_reads (g := 0) (by kernel_rfl) (by kernel_rfl) Tryd.underlying71 Tryd.underlying5 (by kernel_rfl) (by kernel_rfl) (Lib.laidMet.reads h hm)
theorem var_lt {P : Program} {w : World} {name : String} {k : IntKind} {zs : List Int} {g : Nat} (hg : P.globalNamed name = some g) (h : Lib.TabIs P w name k zs) : g < w.heap.size := by
  unfold Lib.TabIs World.var? at h
  rw [hg] at h
  rcases Nat.lt_or_ge g w.heap.size with h' | h'
  · exact h'
  · simp [Array.getElem?_eq_none h'] at h
theorem dEnv_of {W : World} {l : List (String × DataW Unit)} (hp : (l.all fun x => x.2.handleName?.isNone) = true) (hm : ("strings.asciiSpace", Lib.tabData .u8 Lib.asciiSpaceTab) ∈ l) (h : laidMetH Tryd.prog l W) (hsh : W.ShapedOpen Tryd.prog) : DEnv W :=
  ⟨maxL_of hsh, var_lt (by kernel_rfl) (spaces_of hp hm h), spaces_of hp hm h⟩
end Go.Proofs.YthnfmhjjpodhfaaDoor
