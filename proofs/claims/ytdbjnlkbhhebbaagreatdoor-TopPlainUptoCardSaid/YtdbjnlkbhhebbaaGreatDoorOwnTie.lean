/- The tie of TopPlain: the facts put together, as the given tie has it. -/
import Derived.Test.YtdbjnlkbhhebbaaGreatDoorTieB
import Derived.Test.YtdbjnlkbhhebbaaGreatDoorTieC
import Derived.Test.YtdbjnlkbhhebbaaGreatDoorTieD
import Derived.Test.YtdbjnlkbhhebbaaGreatDoorTieE
set_option linter.all false
namespace Go.Proofs.YtdbjnlkbhhebbaaGreatDoor
open Go
set_option maxRecDepth 100000

theorem tf_2 (os : Os) (tape : Tape) : (DataW.laidRun Tryz.prog (varsWorld Tryz.prog 400 (varsId Tryz.prog) os tape).memory 8 (tl.map (·.1))).map (fun x => decide x.2.Nodup && laidRowsB Tryz.prog (varsWorld Tryz.prog 400 (varsId Tryz.prog) os tape).memory x.2) = some true := by
  have h1 := tf_2a os tape
  have h2 := tf_2b os tape
  generalize DataW.laidRun Tryz.prog (varsWorld Tryz.prog 400 (varsId Tryz.prog) os tape).memory 8 (tl.map (·.1)) = r at *
  cases r with
  | none => cases h1
  | some y =>
    have g1 := Option.some.inj h1
    have g2 : laidRowsB _ _ y.2 = true := Option.some.inj h2
    show some (decide y.2.Nodup && _) = some true
    rw [decide_eq_true (plc_nodup g1), g2]
    rfl
theorem tie2 : Tryz.prog.laidByTextLater tl tlK true :=
  Program.laidByTextLater_by_run 400 8 tf_w tf_w2 tf_root tf_k tf_g tf_n tf_d tf_1 tf_2
theorem pin_laid_unicode_utf8_first : Tryz.pinned.checked.prog.pinnedFits "unicode/utf8.first" = true := by kernel_rfl
theorem pin_laid_unicode_CaseRanges : Tryz.pinned.checked.prog.pinnedFits "unicode.CaseRanges" = true := by kernel_rfl
theorem noOwnUnsafe : Tryz.pinned.checked.prog.headLifts.contains "ownunsafe" = false := by kernel_rfl
theorem fits2 : Tryz.pinned.checked.prog.listedFits [("internal/strconv.uint64pow10", Rows.laid_internal_strconv_uint64pow10), ("math/bits.deBruijn32tab", Rows.laid_math_bits_deBruijn32tab), ("math/bits.deBruijn64tab", Rows.laid_math_bits_deBruijn64tab), ("unicode/utf8.first", Rows.laid_unicode_utf8_first), ("unicode/utf8.acceptRanges", Rows.laid_unicode_utf8_acceptRanges), ("strconv.ErrSyntax", Rows.laid_strconv_ErrSyntax), ("strconv.ErrRange", Rows.laid_strconv_ErrRange), ("unicode.CaseRanges", Rows.laid_unicode_CaseRanges), ("strings.asciiSpace", Rows.laid_strings_asciiSpace), ("unicode.White_Space", Rows.laid_unicode_White_Space)] = true := by
  unfold Program.listedFits
  rw [noOwnUnsafe]
  kernel_rfl
theorem topPlainUpto_row_tie : Rows.topPlainUptoRow.laidByTextAt .later Tryz.pinned [.data, .data, .data, .pinned, .data, .sentinel, .sentinel, .pinned, .data, .listed] true :=
  OpenClaim.laidByTextAt_pinned rfl rfl tie2 rfl rfl rfl rfl (fun y hy _e => by
    simp only [Rows.topPlainUptoRow, List.zip_cons_cons, List.zip_nil_right, List.mem_cons, List.mem_nil_iff, or_false] at hy
    rcases hy with rfl | rfl | rfl | rfl | rfl | rfl | rfl | rfl | rfl | rfl
    · cases _e
    · cases _e
    · cases _e
    · exact ⟨pin_laid_unicode_utf8_first, by kernel_rfl⟩
    · cases _e
    · cases _e
    · cases _e
    · exact ⟨pin_laid_unicode_CaseRanges, by kernel_rfl⟩
    · cases _e
    · cases _e) fits2
end Go.Proofs.YtdbjnlkbhhebbaaGreatDoor
