/-
  NARROWER THAN 'FOR EVERY INPUT', by the rows' own cells (each row's printed sentence says how): FieldsParses: laid · FieldsPuts: laid · FieldsBack: laid · FieldsLooks: laid · FieldsSets: laid · FieldsHops: laid · FieldsClean: laid · FieldsKnown: laid.
  DERIVED. THE GIVEN ROWS OF THIS SEAT. 8 by the template 'for every input the law returns true; each argument reads behind the call as it read before'; 0 by the template 'total and deterministic' (their statements: YthppcaoldobocaaDoorTotals.lean).
  GIVEN WITH THE SEED: the statements are not yours to turn. If you find one false, say at which input.
  Laid BY PROGRAM, IN A SANDBOX (cutbox-rows.mjs): the forced cells as the released guide's own fill.sh prints them over the translation 4d64a6c43804c1a9… (all of the seat's roots in one cut). By AI agents, Wed Nov 11 2026. No macro, syntax, notation, axiom, sorry.
-/
import Derived.Test.YthppcaoldobocaaDoorChecked
import GoSem.PinnedTables
import GoSem.Claim
import GoSem.ClaimJoined
import GoSem.ClaimMapViews
import Derived.JoinedTies
import Derived.KernelRfl
namespace Go.Proofs.YthppcaoldobocaaDoor
/- THE CELL 'sum', in the pinned program and in every row, IS THE sha256 OF THE DUMP (.gsa) THAT YthppcaoldobocaaDoorProg.lean LOADS. Nothing in Lean hashes anything: it is a label: what it is worth is what the hold of that sum in a sandbox is worth. -/
noncomputable def Tryd.pinned : Pinned := { name := "ythppcaoldobocaadoor", sum := "4d64a6c43804c1a9e0b7479cca9a45c50d804ccc3e5a864a94b6e94afd1cd78e", checked := Tryd.checked }
namespace Rows
def none {H : Type} : Left H := { results := [], args := [] }

/- WHAT THE LISTED PACKAGE-LEVEL VARIABLES READ AS WHEN THE CALL BEGINS. Each datum BY PROGRAM (the guide's laid-datum.mjs) off the statement by which the dump's own 'gosem.cut.vars' lays the variable. In a bare row this is a premise. The card (YthppcaoldobocaaDoorCards.lean) ties it to the program's text. -/
def laid_unicode_utf8_acceptRanges {H : Type} : DataW H := .agg [.agg [.lit (.int .u8 128), .lit (.int .u8 191)], .agg [.lit (.int .u8 160), .lit (.int .u8 191)], .agg [.lit (.int .u8 128), .lit (.int .u8 159)], .agg [.lit (.int .u8 144), .lit (.int .u8 191)], .agg [.lit (.int .u8 128), .lit (.int .u8 143)], .agg [.lit (.int .u8 0), .lit (.int .u8 0)], .agg [.lit (.int .u8 0), .lit (.int .u8 0)], .agg [.lit (.int .u8 0), .lit (.int .u8 0)], .agg [.lit (.int .u8 0), .lit (.int .u8 0)], .agg [.lit (.int .u8 0), .lit (.int .u8 0)], .agg [.lit (.int .u8 0), .lit (.int .u8 0)], .agg [.lit (.int .u8 0), .lit (.int .u8 0)], .agg [.lit (.int .u8 0), .lit (.int .u8 0)], .agg [.lit (.int .u8 0), .lit (.int .u8 0)], .agg [.lit (.int .u8 0), .lit (.int .u8 0)], .agg [.lit (.int .u8 0), .lit (.int .u8 0)]]
/-- One of Go's own tables, pinned by name: the form's constant. -/
def laid_unicode_utf8_first : DataW Unit := Go.Pinned.utf8First

/-- 'inlaylaw04.FieldsParses': WHATEVER THE INPUT: true; the input reads as it did. -/
def fieldsParsesSpec : ChangeSpec := { name := "fieldsParses", fn := fun _ => fun
  | [d] => { results := [.lit (.bool true)], args := [d] }
  | _ => none }
def fieldsParsesRow : OpenClaim := { program := "ythppcaoldobocaadoor", sum := "4d64a6c43804c1a9e0b7479cca9a45c50d804ccc3e5a864a94b6e94afd1cd78e", func := "inlay/inlaylaw04.FieldsParses", spec := "fieldsParses", inPlace := ["internal/abi.NoEscape", "internal/bytealg.MakeNoZero", "internal/bytealg.IndexByteString", "internal/bytealg.IndexString"], named := ["internal/bytealg.MaxLen", "unicode/utf8.first", "unicode/utf8.acceptRanges"], apart := false, laid := [("unicode/utf8.acceptRanges", laid_unicode_utf8_acceptRanges), ("unicode/utf8.first", laid_unicode_utf8_first)] }
def FieldsParsesSaid : Prop := fieldsParsesRow.holds Tryd.pinned (OpenSpec.ofChange fieldsParsesSpec)

/-- ITS FALSE NEIGHBOUR: 'it returns false'. Refute it at one input. -/
def fieldsParsesWrong : ChangeSpec := { name := "fieldsParses", fn := fun _ => fun
  | [d] => { results := [.lit (.bool false)], args := [d] }
  | _ => none }
def FieldsParsesWrongFalsely : Prop := fieldsParsesRow.holds Tryd.pinned (OpenSpec.ofChange fieldsParsesWrong)

/-- 'inlaylaw04.FieldsPuts': WHATEVER THE INPUT: true; the input reads as it did. -/
def fieldsPutsSpec : ChangeSpec := { name := "fieldsPuts", fn := fun _ => fun
  | [d] => { results := [.lit (.bool true)], args := [d] }
  | _ => none }
def fieldsPutsRow : OpenClaim := { program := "ythppcaoldobocaadoor", sum := "4d64a6c43804c1a9e0b7479cca9a45c50d804ccc3e5a864a94b6e94afd1cd78e", func := "inlay/inlaylaw04.FieldsPuts", spec := "fieldsPuts", inPlace := ["internal/abi.NoEscape", "internal/bytealg.MakeNoZero", "internal/bytealg.IndexByteString", "internal/bytealg.IndexString"], named := ["internal/bytealg.MaxLen", "unicode/utf8.first", "unicode/utf8.acceptRanges"], apart := false, laid := [("unicode/utf8.acceptRanges", laid_unicode_utf8_acceptRanges), ("unicode/utf8.first", laid_unicode_utf8_first)] }
def FieldsPutsSaid : Prop := fieldsPutsRow.holds Tryd.pinned (OpenSpec.ofChange fieldsPutsSpec)

/-- ITS FALSE NEIGHBOUR: 'it returns false'. Refute it at one input. -/
def fieldsPutsWrong : ChangeSpec := { name := "fieldsPuts", fn := fun _ => fun
  | [d] => { results := [.lit (.bool false)], args := [d] }
  | _ => none }
def FieldsPutsWrongFalsely : Prop := fieldsPutsRow.holds Tryd.pinned (OpenSpec.ofChange fieldsPutsWrong)

/-- 'inlaylaw04.FieldsBack': WHATEVER THE INPUT: true; the input reads as it did. -/
def fieldsBackSpec : ChangeSpec := { name := "fieldsBack", fn := fun _ => fun
  | [d1, d2] => { results := [.lit (.bool true)], args := [d1, d2] }
  | _ => none }
def fieldsBackRow : OpenClaim := { program := "ythppcaoldobocaadoor", sum := "4d64a6c43804c1a9e0b7479cca9a45c50d804ccc3e5a864a94b6e94afd1cd78e", func := "inlay/inlaylaw04.FieldsBack", spec := "fieldsBack", inPlace := ["internal/abi.NoEscape", "internal/bytealg.MakeNoZero", "internal/bytealg.IndexByteString", "internal/bytealg.IndexString"], named := ["internal/bytealg.MaxLen", "unicode/utf8.first", "unicode/utf8.acceptRanges"], apart := false, laid := [("unicode/utf8.acceptRanges", laid_unicode_utf8_acceptRanges), ("unicode/utf8.first", laid_unicode_utf8_first)] }
def FieldsBackSaid : Prop := fieldsBackRow.holds Tryd.pinned (OpenSpec.ofChange fieldsBackSpec)

/-- ITS FALSE NEIGHBOUR: 'it returns false'. Refute it at one input. -/
def fieldsBackWrong : ChangeSpec := { name := "fieldsBack", fn := fun _ => fun
  | [d1, d2] => { results := [.lit (.bool false)], args := [d1, d2] }
  | _ => none }
def FieldsBackWrongFalsely : Prop := fieldsBackRow.holds Tryd.pinned (OpenSpec.ofChange fieldsBackWrong)

/-- 'inlaylaw04.FieldsLooks': WHATEVER THE INPUT: true; the input reads as it did. -/
def fieldsLooksSpec : ChangeSpec := { name := "fieldsLooks", fn := fun _ => fun
  | [d1, d2, d3] => { results := [.lit (.bool true)], args := [d1, d2, d3] }
  | _ => none }
def fieldsLooksRow : OpenClaim := { program := "ythppcaoldobocaadoor", sum := "4d64a6c43804c1a9e0b7479cca9a45c50d804ccc3e5a864a94b6e94afd1cd78e", func := "inlay/inlaylaw04.FieldsLooks", spec := "fieldsLooks", inPlace := ["internal/abi.NoEscape", "internal/bytealg.MakeNoZero", "internal/bytealg.IndexByteString", "internal/bytealg.IndexString"], unfollowed := true, recurses := true, named := ["internal/bytealg.MaxLen", "unicode/utf8.first", "unicode/utf8.acceptRanges"], apart := false, laid := [("unicode/utf8.acceptRanges", laid_unicode_utf8_acceptRanges), ("unicode/utf8.first", laid_unicode_utf8_first)] }
def FieldsLooksSaid : Prop := fieldsLooksRow.holds Tryd.pinned (OpenSpec.ofChange fieldsLooksSpec)

/-- ITS FALSE NEIGHBOUR: 'it returns false'. Refute it at one input. -/
def fieldsLooksWrong : ChangeSpec := { name := "fieldsLooks", fn := fun _ => fun
  | [d1, d2, d3] => { results := [.lit (.bool false)], args := [d1, d2, d3] }
  | _ => none }
def FieldsLooksWrongFalsely : Prop := fieldsLooksRow.holds Tryd.pinned (OpenSpec.ofChange fieldsLooksWrong)

/-- 'inlaylaw04.FieldsSets': WHATEVER THE INPUT: true; the input reads as it did. -/
def fieldsSetsSpec : ChangeSpec := { name := "fieldsSets", fn := fun _ => fun
  | [d1, d2, d3] => { results := [.lit (.bool true)], args := [d1, d2, d3] }
  | _ => none }
def fieldsSetsRow : OpenClaim := { program := "ythppcaoldobocaadoor", sum := "4d64a6c43804c1a9e0b7479cca9a45c50d804ccc3e5a864a94b6e94afd1cd78e", func := "inlay/inlaylaw04.FieldsSets", spec := "fieldsSets", inPlace := ["internal/abi.NoEscape", "internal/bytealg.MakeNoZero", "internal/bytealg.IndexByteString", "internal/bytealg.IndexString"], unfollowed := true, recurses := true, named := ["internal/bytealg.MaxLen", "unicode/utf8.first", "unicode/utf8.acceptRanges"], apart := false, laid := [("unicode/utf8.acceptRanges", laid_unicode_utf8_acceptRanges), ("unicode/utf8.first", laid_unicode_utf8_first)] }
def FieldsSetsSaid : Prop := fieldsSetsRow.holds Tryd.pinned (OpenSpec.ofChange fieldsSetsSpec)

/-- ITS FALSE NEIGHBOUR: 'it returns false'. Refute it at one input. -/
def fieldsSetsWrong : ChangeSpec := { name := "fieldsSets", fn := fun _ => fun
  | [d1, d2, d3] => { results := [.lit (.bool false)], args := [d1, d2, d3] }
  | _ => none }
def FieldsSetsWrongFalsely : Prop := fieldsSetsRow.holds Tryd.pinned (OpenSpec.ofChange fieldsSetsWrong)

/-- 'inlaylaw04.FieldsHops': WHATEVER THE INPUT: true; the input reads as it did. -/
def fieldsHopsSpec : ChangeSpec := { name := "fieldsHops", fn := fun _ => fun
  | [d] => { results := [.lit (.bool true)], args := [d] }
  | _ => none }
def fieldsHopsRow : OpenClaim := { program := "ythppcaoldobocaadoor", sum := "4d64a6c43804c1a9e0b7479cca9a45c50d804ccc3e5a864a94b6e94afd1cd78e", func := "inlay/inlaylaw04.FieldsHops", spec := "fieldsHops", inPlace := ["internal/abi.NoEscape", "internal/bytealg.MakeNoZero", "internal/bytealg.IndexByteString", "internal/bytealg.IndexString"], unfollowed := true, recurses := true, named := ["internal/bytealg.MaxLen", "unicode/utf8.first", "unicode/utf8.acceptRanges"], apart := false, laid := [("unicode/utf8.acceptRanges", laid_unicode_utf8_acceptRanges), ("unicode/utf8.first", laid_unicode_utf8_first)] }
def FieldsHopsSaid : Prop := fieldsHopsRow.holds Tryd.pinned (OpenSpec.ofChange fieldsHopsSpec)

/-- ITS FALSE NEIGHBOUR: 'it returns false'. Refute it at one input. -/
def fieldsHopsWrong : ChangeSpec := { name := "fieldsHops", fn := fun _ => fun
  | [d] => { results := [.lit (.bool false)], args := [d] }
  | _ => none }
def FieldsHopsWrongFalsely : Prop := fieldsHopsRow.holds Tryd.pinned (OpenSpec.ofChange fieldsHopsWrong)

/-- 'inlaylaw04.FieldsClean': WHATEVER THE INPUT: true; the input reads as it did. -/
def fieldsCleanSpec : ChangeSpec := { name := "fieldsClean", fn := fun _ => fun
  | [d] => { results := [.lit (.bool true)], args := [d] }
  | _ => none }
def fieldsCleanRow : OpenClaim := { program := "ythppcaoldobocaadoor", sum := "4d64a6c43804c1a9e0b7479cca9a45c50d804ccc3e5a864a94b6e94afd1cd78e", func := "inlay/inlaylaw04.FieldsClean", spec := "fieldsClean", inPlace := ["internal/abi.NoEscape", "internal/bytealg.MakeNoZero", "internal/bytealg.IndexByteString", "internal/bytealg.IndexString"], unfollowed := true, recurses := true, named := ["internal/bytealg.MaxLen", "unicode/utf8.first", "unicode/utf8.acceptRanges"], apart := false, laid := [("unicode/utf8.acceptRanges", laid_unicode_utf8_acceptRanges), ("unicode/utf8.first", laid_unicode_utf8_first)] }
def FieldsCleanSaid : Prop := fieldsCleanRow.holds Tryd.pinned (OpenSpec.ofChange fieldsCleanSpec)

/-- ITS FALSE NEIGHBOUR: 'it returns false'. Refute it at one input. -/
def fieldsCleanWrong : ChangeSpec := { name := "fieldsClean", fn := fun _ => fun
  | [d] => { results := [.lit (.bool false)], args := [d] }
  | _ => none }
def FieldsCleanWrongFalsely : Prop := fieldsCleanRow.holds Tryd.pinned (OpenSpec.ofChange fieldsCleanWrong)

/-- 'inlaylaw04.FieldsKnown': WHATEVER THE INPUT: true; the input reads as it did. -/
def fieldsKnownSpec : ChangeSpec := { name := "fieldsKnown", fn := fun _ => fun
  | [] => { results := [.lit (.bool true)], args := [] }
  | _ => none }
def fieldsKnownRow : OpenClaim := { program := "ythppcaoldobocaadoor", sum := "4d64a6c43804c1a9e0b7479cca9a45c50d804ccc3e5a864a94b6e94afd1cd78e", func := "inlay/inlaylaw04.FieldsKnown", spec := "fieldsKnown", inPlace := ["internal/abi.NoEscape", "internal/bytealg.MakeNoZero", "internal/bytealg.IndexByteString", "internal/bytealg.IndexString"], unfollowed := true, recurses := true, named := ["internal/bytealg.MaxLen", "unicode/utf8.first", "unicode/utf8.acceptRanges"], apart := false, laid := [("unicode/utf8.acceptRanges", laid_unicode_utf8_acceptRanges), ("unicode/utf8.first", laid_unicode_utf8_first)] }
def FieldsKnownSaid : Prop := fieldsKnownRow.holds Tryd.pinned (OpenSpec.ofChange fieldsKnownSpec)

/-- ITS FALSE NEIGHBOUR: 'it returns false'. Refute it at one input. -/
def fieldsKnownWrong : ChangeSpec := { name := "fieldsKnown", fn := fun _ => fun
  | [] => { results := [.lit (.bool false)], args := [] }
  | _ => none }
def FieldsKnownWrongFalsely : Prop := fieldsKnownRow.holds Tryd.pinned (OpenSpec.ofChange fieldsKnownWrong)

/- THE SECOND FORM. 'bulk': how many values and letters a reading holds, each counted each time it is reached (what is shared counts as often as it is met; a slice's spare places count too). A statement '..UptoSaid' is the law's where the arguments, and the package variables that the reading takes, are together of bulk at most 1048576: NARROWER than '..Said'. Prove '..Said' where nothing that the law and all that it calls make is longer than what came in: it says more and counts as full. Else prove '..UptoSaid'. A law counts once. -/
mutual
def uptoBulk {H : Type} : DataW H → Nat
  | .lit (.string bytes) => bytes.length + 1
  | .lit _ => 1
  | .nil => 1
  | .ptr d => uptoBulk d + 1
  | .slice elems spare => uptoBulkAll elems + uptoBulkAll spare + 1
  | .agg parts => uptoBulkAll parts + 1
  | .iface _ d => uptoBulk d + 1
  | .map entries => uptoBulkEntries entries + 1
  | .held _ => 1
def uptoBulkAll {H : Type} : List (DataW H) → Nat
  | [] => 0
  | d :: r => uptoBulk d + uptoBulkAll r
def uptoBulkEntries {H : Type} : List (Lit × DataW H) → Nat
  | [] => 0
  | x :: r => uptoBulkEntry x + uptoBulkEntries r
def uptoBulkEntry {H : Type} : Lit × DataW H → Nat
  | (.string bytes, d) => bytes.length + uptoBulk d + 1
  | (_, d) => uptoBulk d + 1
 end
def uptoSmall : (H : Type) → List (DataW H) → Bool := fun _ ds => decide (uptoBulkAll ds ≤ 1048576)
def OpenSpec.upto (s : _root_.Go.ChangeSpec) : _root_.Go.OpenSpec := { _root_.Go.OpenSpec.ofChange s with cond := some uptoSmall }

/-- 'inlaylaw04.FieldsParses', WHERE WHAT IT READS IS OF BULK AT MOST 1048576: true; the input reads as it did. -/
def fieldsParsesUptoRow : OpenClaim := { program := "ythppcaoldobocaadoor", sum := "4d64a6c43804c1a9e0b7479cca9a45c50d804ccc3e5a864a94b6e94afd1cd78e", func := "inlay/inlaylaw04.FieldsParses", spec := "fieldsParses", inPlace := ["internal/abi.NoEscape", "internal/bytealg.MakeNoZero", "internal/bytealg.IndexByteString", "internal/bytealg.IndexString"], named := ["internal/bytealg.MaxLen", "unicode/utf8.first", "unicode/utf8.acceptRanges"], apart := false, laid := [("unicode/utf8.acceptRanges", laid_unicode_utf8_acceptRanges), ("unicode/utf8.first", laid_unicode_utf8_first)], narrowed := true }
def FieldsParsesUptoSaid : Prop := fieldsParsesUptoRow.holds Tryd.pinned (OpenSpec.upto fieldsParsesSpec)

/-- 'inlaylaw04.FieldsPuts', WHERE WHAT IT READS IS OF BULK AT MOST 1048576: true; the input reads as it did. -/
def fieldsPutsUptoRow : OpenClaim := { program := "ythppcaoldobocaadoor", sum := "4d64a6c43804c1a9e0b7479cca9a45c50d804ccc3e5a864a94b6e94afd1cd78e", func := "inlay/inlaylaw04.FieldsPuts", spec := "fieldsPuts", inPlace := ["internal/abi.NoEscape", "internal/bytealg.MakeNoZero", "internal/bytealg.IndexByteString", "internal/bytealg.IndexString"], named := ["internal/bytealg.MaxLen", "unicode/utf8.first", "unicode/utf8.acceptRanges"], apart := false, laid := [("unicode/utf8.acceptRanges", laid_unicode_utf8_acceptRanges), ("unicode/utf8.first", laid_unicode_utf8_first)], narrowed := true }
def FieldsPutsUptoSaid : Prop := fieldsPutsUptoRow.holds Tryd.pinned (OpenSpec.upto fieldsPutsSpec)

/-- 'inlaylaw04.FieldsBack', WHERE WHAT IT READS IS OF BULK AT MOST 1048576: true; the input reads as it did. -/
def fieldsBackUptoRow : OpenClaim := { program := "ythppcaoldobocaadoor", sum := "4d64a6c43804c1a9e0b7479cca9a45c50d804ccc3e5a864a94b6e94afd1cd78e", func := "inlay/inlaylaw04.FieldsBack", spec := "fieldsBack", inPlace := ["internal/abi.NoEscape", "internal/bytealg.MakeNoZero", "internal/bytealg.IndexByteString", "internal/bytealg.IndexString"], named := ["internal/bytealg.MaxLen", "unicode/utf8.first", "unicode/utf8.acceptRanges"], apart := false, laid := [("unicode/utf8.acceptRanges", laid_unicode_utf8_acceptRanges), ("unicode/utf8.first", laid_unicode_utf8_first)], narrowed := true }
def FieldsBackUptoSaid : Prop := fieldsBackUptoRow.holds Tryd.pinned (OpenSpec.upto fieldsBackSpec)

/-- 'inlaylaw04.FieldsLooks', WHERE WHAT IT READS IS OF BULK AT MOST 1048576: true; the input reads as it did. -/
def fieldsLooksUptoRow : OpenClaim := { program := "ythppcaoldobocaadoor", sum := "4d64a6c43804c1a9e0b7479cca9a45c50d804ccc3e5a864a94b6e94afd1cd78e", func := "inlay/inlaylaw04.FieldsLooks", spec := "fieldsLooks", inPlace := ["internal/abi.NoEscape", "internal/bytealg.MakeNoZero", "internal/bytealg.IndexByteString", "internal/bytealg.IndexString"], unfollowed := true, recurses := true, named := ["internal/bytealg.MaxLen", "unicode/utf8.first", "unicode/utf8.acceptRanges"], apart := false, laid := [("unicode/utf8.acceptRanges", laid_unicode_utf8_acceptRanges), ("unicode/utf8.first", laid_unicode_utf8_first)], narrowed := true }
def FieldsLooksUptoSaid : Prop := fieldsLooksUptoRow.holds Tryd.pinned (OpenSpec.upto fieldsLooksSpec)

/-- 'inlaylaw04.FieldsSets', WHERE WHAT IT READS IS OF BULK AT MOST 1048576: true; the input reads as it did. -/
def fieldsSetsUptoRow : OpenClaim := { program := "ythppcaoldobocaadoor", sum := "4d64a6c43804c1a9e0b7479cca9a45c50d804ccc3e5a864a94b6e94afd1cd78e", func := "inlay/inlaylaw04.FieldsSets", spec := "fieldsSets", inPlace := ["internal/abi.NoEscape", "internal/bytealg.MakeNoZero", "internal/bytealg.IndexByteString", "internal/bytealg.IndexString"], unfollowed := true, recurses := true, named := ["internal/bytealg.MaxLen", "unicode/utf8.first", "unicode/utf8.acceptRanges"], apart := false, laid := [("unicode/utf8.acceptRanges", laid_unicode_utf8_acceptRanges), ("unicode/utf8.first", laid_unicode_utf8_first)], narrowed := true }
def FieldsSetsUptoSaid : Prop := fieldsSetsUptoRow.holds Tryd.pinned (OpenSpec.upto fieldsSetsSpec)

/-- 'inlaylaw04.FieldsHops', WHERE WHAT IT READS IS OF BULK AT MOST 1048576: true; the input reads as it did. -/
def fieldsHopsUptoRow : OpenClaim := { program := "ythppcaoldobocaadoor", sum := "4d64a6c43804c1a9e0b7479cca9a45c50d804ccc3e5a864a94b6e94afd1cd78e", func := "inlay/inlaylaw04.FieldsHops", spec := "fieldsHops", inPlace := ["internal/abi.NoEscape", "internal/bytealg.MakeNoZero", "internal/bytealg.IndexByteString", "internal/bytealg.IndexString"], unfollowed := true, recurses := true, named := ["internal/bytealg.MaxLen", "unicode/utf8.first", "unicode/utf8.acceptRanges"], apart := false, laid := [("unicode/utf8.acceptRanges", laid_unicode_utf8_acceptRanges), ("unicode/utf8.first", laid_unicode_utf8_first)], narrowed := true }
def FieldsHopsUptoSaid : Prop := fieldsHopsUptoRow.holds Tryd.pinned (OpenSpec.upto fieldsHopsSpec)

/-- 'inlaylaw04.FieldsClean', WHERE WHAT IT READS IS OF BULK AT MOST 1048576: true; the input reads as it did. -/
def fieldsCleanUptoRow : OpenClaim := { program := "ythppcaoldobocaadoor", sum := "4d64a6c43804c1a9e0b7479cca9a45c50d804ccc3e5a864a94b6e94afd1cd78e", func := "inlay/inlaylaw04.FieldsClean", spec := "fieldsClean", inPlace := ["internal/abi.NoEscape", "internal/bytealg.MakeNoZero", "internal/bytealg.IndexByteString", "internal/bytealg.IndexString"], unfollowed := true, recurses := true, named := ["internal/bytealg.MaxLen", "unicode/utf8.first", "unicode/utf8.acceptRanges"], apart := false, laid := [("unicode/utf8.acceptRanges", laid_unicode_utf8_acceptRanges), ("unicode/utf8.first", laid_unicode_utf8_first)], narrowed := true }
def FieldsCleanUptoSaid : Prop := fieldsCleanUptoRow.holds Tryd.pinned (OpenSpec.upto fieldsCleanSpec)

/-- 'inlaylaw04.FieldsKnown', WHERE WHAT IT READS IS OF BULK AT MOST 1048576: true; the input reads as it did. -/
def fieldsKnownUptoRow : OpenClaim := { program := "ythppcaoldobocaadoor", sum := "4d64a6c43804c1a9e0b7479cca9a45c50d804ccc3e5a864a94b6e94afd1cd78e", func := "inlay/inlaylaw04.FieldsKnown", spec := "fieldsKnown", inPlace := ["internal/abi.NoEscape", "internal/bytealg.MakeNoZero", "internal/bytealg.IndexByteString", "internal/bytealg.IndexString"], unfollowed := true, recurses := true, named := ["internal/bytealg.MaxLen", "unicode/utf8.first", "unicode/utf8.acceptRanges"], apart := false, laid := [("unicode/utf8.acceptRanges", laid_unicode_utf8_acceptRanges), ("unicode/utf8.first", laid_unicode_utf8_first)], narrowed := true }
def FieldsKnownUptoSaid : Prop := fieldsKnownUptoRow.holds Tryd.pinned (OpenSpec.upto fieldsKnownSpec)

end Rows
end Go.Proofs.YthppcaoldobocaaDoor
