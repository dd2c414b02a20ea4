/- What the row of TopPlain asks of the program, fact by fact. -/
import Derived.Test.YtdbjnlkbhhebbaaGreatDoorRows
import Derived.JoinedOf
import Derived.JoinedCond
set_option linter.all false
namespace Go.Proofs.YtdbjnlkbhhebbaaGreatDoor
open Go
set_option maxRecDepth 100000
noncomputable abbrev tP : Program := Tryz.pinned.checked.prog
abbrev tC : OpenClaim := Rows.topPlainUptoRow
abbrev tS : ChangeSpec := (Rows.OpenSpec.upto Rows.topPlainSpec).bare
theorem and_t {a b : Bool} (h : a = true) (k : b = true) : (a && b) = true := by rw [h, k]; rfl
theorem tj0 : tC.wf (OpenSpec.ofChange tS) = true := by kernel_rfl
theorem tj1 : laidOutB tP = true := by kernel_rfl
theorem tj2 : mapsRowed tP = true := by kernel_rfl
theorem tj3 : Tryz.f4.params.all (tP.readableRec ·) = true := by kernel_rfl
theorem tj4 : namedTie tP tC.named tS.vars = true := by kernel_rfl
theorem tj5 : (tC.stops == []) = true := by kernel_rfl
theorem tj6 : (tP.stops == []) = true := by kernel_rfl
theorem tj7 : (tC.knobs == []) = true := by kernel_rfl
theorem tj8 : (tP.stopKnobs == []) = true := by kernel_rfl
theorem tj9 : (tC.inPlace == tP.inPlace 4) = true := by kernel_rfl
theorem tj10 : (tC.unfollowed == tP.unfollowed 4) = true := by kernel_rfl
theorem tj11 : (tC.recurses == tP.recurses 4) = true := by kernel_rfl
theorem tj12 : (tC.named == tP.varsNamed 4) = true := by kernel_rfl
theorem tj13 : (tC.maps == (Tryz.f4.params.toList ++ tS.plain.varTypes tP).any (tP.mapsRec ·)) = true := by kernel_rfl
theorem tj14 : (tC.ifaces == (Tryz.f4.params.toList ++ tS.plain.varTypes tP).any (tP.ifacesRec ·)) = true := by kernel_rfl
theorem tj15 : (tC.mapsOut == tP.mapsAmong Tryz.f4.resultTypes.toList) = true := by kernel_rfl
theorem tj16 : (tC.loops == (Tryz.f4.params.toList ++ tS.plain.varTypes tP).any (tP.loopsFrom ·)) = true := by kernel_rfl
theorem tj17 : (tC.wideKeys == (Tryz.f4.params.toList ++ tS.plain.varTypes tP ++ Tryz.f4.resultTypes.toList).any (tP.wideKeysFrom ·)) = true := by kernel_rfl
theorem tj18 : tS.vars.all (tP.varReadable ·) = true := by kernel_rfl
theorem tj19 : Tryz.f4.resultTypes.all (fun t => tP.readableRec t && decide (t < tP.types.size)) = true := by kernel_rfl
theorem tj20 : (tC.ifacesOut == Tryz.f4.resultTypes.toList.any (tP.ifacesRec ·)) = true := by kernel_rfl
theorem tj21 : (tC.loopsOut == Tryz.f4.resultTypes.toList.any (tP.loopsFrom ·)) = true := by kernel_rfl
theorem tj22 : (tC.plainKeys == tP.plainKeys) = true := by kernel_rfl
theorem tj23 : tC.shortTexts.isNone = true := by kernel_rfl
theorem tj24 : tP.stopsHeard = true := by kernel_rfl
theorem tj25 : tP.mayEnter = true := by kernel_rfl
theorem tj26 : (tC.lifted == tP.liftsFinal) = true := by kernel_rfl
theorem tj27 : (tP.make == some tC.make) = true := by kernel_rfl
theorem tj28 : (tC.kinds == (if tC.domain.isEmpty then [] else Tryz.f4.params.toList.map fun t => match tP.underlying t with | some (.int k) => some k | _ => none)) = true := by kernel_rfl
theorem tj29 : (tC.pinned == tC.pinnedBy) = true := by kernel_rfl
theorem tj30 : (tC.veiled == (Tryz.f4.params.toList ++ tS.plain.varTypes tP ++ Tryz.f4.resultTypes.toList).any (tP.veiledRec ·)) = true := by kernel_rfl
theorem tj31 : tC.veiledFits tP Tryz.f4.params.toList (Tryz.f4.params.toList ++ tS.plain.varTypes tP ++ Tryz.f4.resultTypes.toList) = true := by kernel_rfl
theorem tj_all : joinedFacts tP 4 Tryz.f4 tS tC = true := (and_t (and_t (and_t (and_t (and_t (and_t (and_t (and_t (and_t (and_t (and_t (and_t (and_t (and_t (and_t (and_t (and_t (and_t (and_t (and_t (and_t (and_t (and_t (and_t (and_t (and_t (and_t (and_t (and_t (and_t (and_t tj0 tj1) tj2) tj3) tj4) tj5) tj6) tj7) tj8) tj9) tj10) tj11) tj12) tj13) tj14) tj15) tj16) tj17) tj18) tj19) tj20) tj21) tj22) tj23) tj24) tj25) tj26) tj27) tj28) tj29) tj30) tj31)
end Go.Proofs.YtdbjnlkbhhebbaaGreatDoor
