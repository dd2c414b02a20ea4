/-
  NARROWER THAN 'FOR EVERY INPUT', by the rows' own cells (each row's printed sentence says how): DirectiveLists: laid · DirectiveJoins: laid · DirectiveFinds: laid · DirectiveBack: laid · DirectiveKnown: laid · SurctlLists: laid · SurctlMine: laid · SurctlOthers: laid · SurctlTells: laid · SurctlKnown: laid.
  DERIVED. THE GIVEN ROWS OF THIS SEAT. 10 by the template 'for every input the law returns true; each argument reads behind the call as it read before'; 0 by the template 'total and deterministic' (their statements: YtfoabdpfadgafaaDoorTotals.lean).
  GIVEN WITH THE SEED: the statements are not yours to turn. If you find one false, say at which input.
  Laid BY PROGRAM, IN A SANDBOX (cutbox-rows.mjs): the forced cells as the released guide's own fill.sh prints them over the translation bd7dda323200be27… (all of the seat's roots in one cut). By AI agents, Wed Nov 11 2026. No macro, syntax, notation, axiom, sorry.
-/
import Derived.Test.YtfoabdpfadgafaaDoorChecked
import GoSem.PinnedTables
import GoSem.Claim
import GoSem.ClaimJoined
import GoSem.ClaimMapViews
import Derived.JoinedTies
import Derived.KernelRfl
namespace Go.Proofs.YtfoabdpfadgafaaDoor
/- THE CELL 'sum', in the pinned program and in every row, IS THE sha256 OF THE DUMP (.gsa) THAT YtfoabdpfadgafaaDoorProg.lean LOADS. Nothing in Lean hashes anything: it is a label: what it is worth is what the hold of that sum in a sandbox is worth. -/
noncomputable def Tryd.pinned : Pinned := { name := "ytfoabdpfadgafaadoor", sum := "bd7dda323200be27f84b0257e34198397418c0f6897450a1c649393b847f6d0b", checked := Tryd.checked }
namespace Rows
def none {H : Type} : Left H := { results := [], args := [] }

/- WHAT THE LISTED PACKAGE-LEVEL VARIABLES READ AS WHEN THE CALL BEGINS. Each datum BY PROGRAM (the guide's laid-datum.mjs) off the statement by which the dump's own 'gosem.cut.vars' lays the variable. In a bare row this is a premise. The card (YtfoabdpfadgafaaDoorCards.lean) ties it to the program's text. -/
def laid_unicode_utf8_acceptRanges {H : Type} : DataW H := .agg [.agg [.lit (.int .u8 128), .lit (.int .u8 191)], .agg [.lit (.int .u8 160), .lit (.int .u8 191)], .agg [.lit (.int .u8 128), .lit (.int .u8 159)], .agg [.lit (.int .u8 144), .lit (.int .u8 191)], .agg [.lit (.int .u8 128), .lit (.int .u8 143)], .agg [.lit (.int .u8 0), .lit (.int .u8 0)], .agg [.lit (.int .u8 0), .lit (.int .u8 0)], .agg [.lit (.int .u8 0), .lit (.int .u8 0)], .agg [.lit (.int .u8 0), .lit (.int .u8 0)], .agg [.lit (.int .u8 0), .lit (.int .u8 0)], .agg [.lit (.int .u8 0), .lit (.int .u8 0)], .agg [.lit (.int .u8 0), .lit (.int .u8 0)], .agg [.lit (.int .u8 0), .lit (.int .u8 0)], .agg [.lit (.int .u8 0), .lit (.int .u8 0)], .agg [.lit (.int .u8 0), .lit (.int .u8 0)], .agg [.lit (.int .u8 0), .lit (.int .u8 0)]]
/-- One of Go's own tables, pinned by name: the form's constant. -/
def laid_unicode_utf8_first : DataW Unit := Go.Pinned.utf8First

/-- 'inlaylaw11.DirectiveLists': WHATEVER THE INPUT: true; the input reads as it did. -/
def directiveListsSpec : ChangeSpec := { name := "directiveLists", fn := fun _ => fun
  | [d] => { results := [.lit (.bool true)], args := [d] }
  | _ => none }
def directiveListsRow : OpenClaim := { program := "ytfoabdpfadgafaadoor", sum := "bd7dda323200be27f84b0257e34198397418c0f6897450a1c649393b847f6d0b", func := "inlay/inlaylaw11.DirectiveLists", spec := "directiveLists", inPlace := ["internal/bytealg.IndexByteString", "internal/bytealg.IndexString", "internal/abi.NoEscape"], unfollowed := true, recurses := true, named := ["unicode/utf8.first", "unicode/utf8.acceptRanges", "internal/bytealg.MaxLen"], apart := false, laid := [("unicode/utf8.acceptRanges", laid_unicode_utf8_acceptRanges), ("unicode/utf8.first", laid_unicode_utf8_first)] }
def DirectiveListsSaid : Prop := directiveListsRow.holds Tryd.pinned (OpenSpec.ofChange directiveListsSpec)

/-- ITS FALSE NEIGHBOUR: 'it returns false'. Refute it at one input. -/
def directiveListsWrong : ChangeSpec := { name := "directiveLists", fn := fun _ => fun
  | [d] => { results := [.lit (.bool false)], args := [d] }
  | _ => none }
def DirectiveListsWrongFalsely : Prop := directiveListsRow.holds Tryd.pinned (OpenSpec.ofChange directiveListsWrong)

/-- 'inlaylaw11.DirectiveJoins': WHATEVER THE INPUT: true; the input reads as it did. -/
def directiveJoinsSpec : ChangeSpec := { name := "directiveJoins", fn := fun _ => fun
  | [d1, d2] => { results := [.lit (.bool true)], args := [d1, d2] }
  | _ => none }
def directiveJoinsRow : OpenClaim := { program := "ytfoabdpfadgafaadoor", sum := "bd7dda323200be27f84b0257e34198397418c0f6897450a1c649393b847f6d0b", func := "inlay/inlaylaw11.DirectiveJoins", spec := "directiveJoins", inPlace := ["internal/bytealg.IndexByteString", "internal/bytealg.IndexString", "internal/abi.NoEscape"], unfollowed := true, recurses := true, named := ["unicode/utf8.first", "unicode/utf8.acceptRanges", "internal/bytealg.MaxLen"], apart := false, laid := [("unicode/utf8.acceptRanges", laid_unicode_utf8_acceptRanges), ("unicode/utf8.first", laid_unicode_utf8_first)] }
def DirectiveJoinsSaid : Prop := directiveJoinsRow.holds Tryd.pinned (OpenSpec.ofChange directiveJoinsSpec)

/-- ITS FALSE NEIGHBOUR: 'it returns false'. Refute it at one input. -/
def directiveJoinsWrong : ChangeSpec := { name := "directiveJoins", fn := fun _ => fun
  | [d1, d2] => { results := [.lit (.bool false)], args := [d1, d2] }
  | _ => none }
def DirectiveJoinsWrongFalsely : Prop := directiveJoinsRow.holds Tryd.pinned (OpenSpec.ofChange directiveJoinsWrong)

/-- 'inlaylaw11.DirectiveFinds': WHATEVER THE INPUT: true; the input reads as it did. -/
def directiveFindsSpec : ChangeSpec := { name := "directiveFinds", fn := fun _ => fun
  | [d1, d2] => { results := [.lit (.bool true)], args := [d1, d2] }
  | _ => none }
def directiveFindsRow : OpenClaim := { program := "ytfoabdpfadgafaadoor", sum := "bd7dda323200be27f84b0257e34198397418c0f6897450a1c649393b847f6d0b", func := "inlay/inlaylaw11.DirectiveFinds", spec := "directiveFinds", inPlace := ["internal/bytealg.IndexByteString", "internal/bytealg.IndexString", "internal/abi.NoEscape"], unfollowed := true, recurses := true, named := ["unicode/utf8.first", "unicode/utf8.acceptRanges", "internal/bytealg.MaxLen"], apart := false, laid := [("unicode/utf8.acceptRanges", laid_unicode_utf8_acceptRanges), ("unicode/utf8.first", laid_unicode_utf8_first)] }
def DirectiveFindsSaid : Prop := directiveFindsRow.holds Tryd.pinned (OpenSpec.ofChange directiveFindsSpec)

/-- ITS FALSE NEIGHBOUR: 'it returns false'. Refute it at one input. -/
def directiveFindsWrong : ChangeSpec := { name := "directiveFinds", fn := fun _ => fun
  | [d1, d2] => { results := [.lit (.bool false)], args := [d1, d2] }
  | _ => none }
def DirectiveFindsWrongFalsely : Prop := directiveFindsRow.holds Tryd.pinned (OpenSpec.ofChange directiveFindsWrong)

/-- 'inlaylaw11.DirectiveBack': WHATEVER THE INPUT: true; the input reads as it did. -/
def directiveBackSpec : ChangeSpec := { name := "directiveBack", fn := fun _ => fun
  | [d1, d2, d3] => { results := [.lit (.bool true)], args := [d1, d2, d3] }
  | _ => none }
def directiveBackRow : OpenClaim := { program := "ytfoabdpfadgafaadoor", sum := "bd7dda323200be27f84b0257e34198397418c0f6897450a1c649393b847f6d0b", func := "inlay/inlaylaw11.DirectiveBack", spec := "directiveBack", inPlace := ["internal/bytealg.IndexByteString", "internal/bytealg.IndexString", "internal/abi.NoEscape", "internal/bytealg.MakeNoZero"], unfollowed := true, recurses := true, named := ["unicode/utf8.first", "unicode/utf8.acceptRanges", "internal/bytealg.MaxLen"], apart := false, laid := [("unicode/utf8.acceptRanges", laid_unicode_utf8_acceptRanges), ("unicode/utf8.first", laid_unicode_utf8_first)] }
def DirectiveBackSaid : Prop := directiveBackRow.holds Tryd.pinned (OpenSpec.ofChange directiveBackSpec)

/-- ITS FALSE NEIGHBOUR: 'it returns false'. Refute it at one input. -/
def directiveBackWrong : ChangeSpec := { name := "directiveBack", fn := fun _ => fun
  | [d1, d2, d3] => { results := [.lit (.bool false)], args := [d1, d2, d3] }
  | _ => none }
def DirectiveBackWrongFalsely : Prop := directiveBackRow.holds Tryd.pinned (OpenSpec.ofChange directiveBackWrong)

/-- 'inlaylaw11.DirectiveKnown': WHATEVER THE INPUT: true; the input reads as it did. -/
def directiveKnownSpec : ChangeSpec := { name := "directiveKnown", fn := fun _ => fun
  | [] => { results := [.lit (.bool true)], args := [] }
  | _ => none }
def directiveKnownRow : OpenClaim := { program := "ytfoabdpfadgafaadoor", sum := "bd7dda323200be27f84b0257e34198397418c0f6897450a1c649393b847f6d0b", func := "inlay/inlaylaw11.DirectiveKnown", spec := "directiveKnown", inPlace := ["internal/bytealg.IndexByteString", "internal/bytealg.IndexString", "internal/abi.NoEscape", "internal/bytealg.MakeNoZero"], unfollowed := true, recurses := true, named := ["unicode/utf8.first", "unicode/utf8.acceptRanges", "internal/bytealg.MaxLen"], apart := false, laid := [("unicode/utf8.acceptRanges", laid_unicode_utf8_acceptRanges), ("unicode/utf8.first", laid_unicode_utf8_first)] }
def DirectiveKnownSaid : Prop := directiveKnownRow.holds Tryd.pinned (OpenSpec.ofChange directiveKnownSpec)

/-- ITS FALSE NEIGHBOUR: 'it returns false'. Refute it at one input. -/
def directiveKnownWrong : ChangeSpec := { name := "directiveKnown", fn := fun _ => fun
  | [] => { results := [.lit (.bool false)], args := [] }
  | _ => none }
def DirectiveKnownWrongFalsely : Prop := directiveKnownRow.holds Tryd.pinned (OpenSpec.ofChange directiveKnownWrong)

/-- 'inlaylaw12.SurctlLists': WHATEVER THE INPUT: true; the input reads as it did. -/
def surctlListsSpec : ChangeSpec := { name := "surctlLists", fn := fun _ => fun
  | [d] => { results := [.lit (.bool true)], args := [d] }
  | _ => none }
def surctlListsRow : OpenClaim := { program := "ytfoabdpfadgafaadoor", sum := "bd7dda323200be27f84b0257e34198397418c0f6897450a1c649393b847f6d0b", func := "inlay/inlaylaw12.SurctlLists", spec := "surctlLists", inPlace := ["internal/bytealg.IndexByteString", "internal/bytealg.IndexString", "internal/abi.NoEscape"], unfollowed := true, recurses := true, named := ["unicode/utf8.first", "unicode/utf8.acceptRanges", "internal/bytealg.MaxLen"], apart := false, laid := [("unicode/utf8.acceptRanges", laid_unicode_utf8_acceptRanges), ("unicode/utf8.first", laid_unicode_utf8_first)] }
def SurctlListsSaid : Prop := surctlListsRow.holds Tryd.pinned (OpenSpec.ofChange surctlListsSpec)

/-- ITS FALSE NEIGHBOUR: 'it returns false'. Refute it at one input. -/
def surctlListsWrong : ChangeSpec := { name := "surctlLists", fn := fun _ => fun
  | [d] => { results := [.lit (.bool false)], args := [d] }
  | _ => none }
def SurctlListsWrongFalsely : Prop := surctlListsRow.holds Tryd.pinned (OpenSpec.ofChange surctlListsWrong)

/-- 'inlaylaw12.SurctlMine': WHATEVER THE INPUT: true; the input reads as it did. -/
def surctlMineSpec : ChangeSpec := { name := "surctlMine", fn := fun _ => fun
  | [d1, d2] => { results := [.lit (.bool true)], args := [d1, d2] }
  | _ => none }
def surctlMineRow : OpenClaim := { program := "ytfoabdpfadgafaadoor", sum := "bd7dda323200be27f84b0257e34198397418c0f6897450a1c649393b847f6d0b", func := "inlay/inlaylaw12.SurctlMine", spec := "surctlMine", inPlace := ["internal/bytealg.IndexByteString", "internal/bytealg.IndexString", "internal/abi.NoEscape"], unfollowed := true, recurses := true, named := ["unicode/utf8.first", "unicode/utf8.acceptRanges", "internal/bytealg.MaxLen"], apart := false, laid := [("unicode/utf8.acceptRanges", laid_unicode_utf8_acceptRanges), ("unicode/utf8.first", laid_unicode_utf8_first)] }
def SurctlMineSaid : Prop := surctlMineRow.holds Tryd.pinned (OpenSpec.ofChange surctlMineSpec)

/-- ITS FALSE NEIGHBOUR: 'it returns false'. Refute it at one input. -/
def surctlMineWrong : ChangeSpec := { name := "surctlMine", fn := fun _ => fun
  | [d1, d2] => { results := [.lit (.bool false)], args := [d1, d2] }
  | _ => none }
def SurctlMineWrongFalsely : Prop := surctlMineRow.holds Tryd.pinned (OpenSpec.ofChange surctlMineWrong)

/-- 'inlaylaw12.SurctlOthers': WHATEVER THE INPUT: true; the input reads as it did. -/
def surctlOthersSpec : ChangeSpec := { name := "surctlOthers", fn := fun _ => fun
  | [d1, d2, d3] => { results := [.lit (.bool true)], args := [d1, d2, d3] }
  | _ => none }
def surctlOthersRow : OpenClaim := { program := "ytfoabdpfadgafaadoor", sum := "bd7dda323200be27f84b0257e34198397418c0f6897450a1c649393b847f6d0b", func := "inlay/inlaylaw12.SurctlOthers", spec := "surctlOthers", inPlace := ["internal/bytealg.IndexByteString", "internal/bytealg.IndexString", "internal/abi.NoEscape"], unfollowed := true, recurses := true, named := ["unicode/utf8.first", "unicode/utf8.acceptRanges", "internal/bytealg.MaxLen"], apart := false, laid := [("unicode/utf8.acceptRanges", laid_unicode_utf8_acceptRanges), ("unicode/utf8.first", laid_unicode_utf8_first)] }
def SurctlOthersSaid : Prop := surctlOthersRow.holds Tryd.pinned (OpenSpec.ofChange surctlOthersSpec)

/-- ITS FALSE NEIGHBOUR: 'it returns false'. Refute it at one input. -/
def surctlOthersWrong : ChangeSpec := { name := "surctlOthers", fn := fun _ => fun
  | [d1, d2, d3] => { results := [.lit (.bool false)], args := [d1, d2, d3] }
  | _ => none }
def SurctlOthersWrongFalsely : Prop := surctlOthersRow.holds Tryd.pinned (OpenSpec.ofChange surctlOthersWrong)

/-- 'inlaylaw12.SurctlTells': WHATEVER THE INPUT: true; the input reads as it did. -/
def surctlTellsSpec : ChangeSpec := { name := "surctlTells", fn := fun _ => fun
  | [d1, d2] => { results := [.lit (.bool true)], args := [d1, d2] }
  | _ => none }
def surctlTellsRow : OpenClaim := { program := "ytfoabdpfadgafaadoor", sum := "bd7dda323200be27f84b0257e34198397418c0f6897450a1c649393b847f6d0b", func := "inlay/inlaylaw12.SurctlTells", spec := "surctlTells", inPlace := ["internal/bytealg.IndexByteString", "internal/bytealg.IndexString", "internal/abi.NoEscape"], unfollowed := true, recurses := true, named := ["unicode/utf8.first", "unicode/utf8.acceptRanges", "internal/bytealg.MaxLen"], apart := false, laid := [("unicode/utf8.acceptRanges", laid_unicode_utf8_acceptRanges), ("unicode/utf8.first", laid_unicode_utf8_first)] }
def SurctlTellsSaid : Prop := surctlTellsRow.holds Tryd.pinned (OpenSpec.ofChange surctlTellsSpec)

/-- ITS FALSE NEIGHBOUR: 'it returns false'. Refute it at one input. -/
def surctlTellsWrong : ChangeSpec := { name := "surctlTells", fn := fun _ => fun
  | [d1, d2] => { results := [.lit (.bool false)], args := [d1, d2] }
  | _ => none }
def SurctlTellsWrongFalsely : Prop := surctlTellsRow.holds Tryd.pinned (OpenSpec.ofChange surctlTellsWrong)

/-- 'inlaylaw12.SurctlKnown': WHATEVER THE INPUT: true; the input reads as it did. -/
def surctlKnownSpec : ChangeSpec := { name := "surctlKnown", fn := fun _ => fun
  | [] => { results := [.lit (.bool true)], args := [] }
  | _ => none }
def surctlKnownRow : OpenClaim := { program := "ytfoabdpfadgafaadoor", sum := "bd7dda323200be27f84b0257e34198397418c0f6897450a1c649393b847f6d0b", func := "inlay/inlaylaw12.SurctlKnown", spec := "surctlKnown", inPlace := ["internal/bytealg.IndexByteString", "internal/bytealg.IndexString", "internal/abi.NoEscape"], unfollowed := true, recurses := true, named := ["unicode/utf8.first", "unicode/utf8.acceptRanges", "internal/bytealg.MaxLen"], apart := false, laid := [("unicode/utf8.acceptRanges", laid_unicode_utf8_acceptRanges), ("unicode/utf8.first", laid_unicode_utf8_first)] }
def SurctlKnownSaid : Prop := surctlKnownRow.holds Tryd.pinned (OpenSpec.ofChange surctlKnownSpec)

/-- ITS FALSE NEIGHBOUR: 'it returns false'. Refute it at one input. -/
def surctlKnownWrong : ChangeSpec := { name := "surctlKnown", fn := fun _ => fun
  | [] => { results := [.lit (.bool false)], args := [] }
  | _ => none }
def SurctlKnownWrongFalsely : Prop := surctlKnownRow.holds Tryd.pinned (OpenSpec.ofChange surctlKnownWrong)

/- THE SECOND FORM. 'bulk': how many values and letters a reading holds, each counted each time it is reached (what is shared counts as often as it is met; a slice's spare places count too). A statement '..UptoSaid' is the law's where the arguments, and the package variables that the reading takes, are together of bulk at most 1048576: NARROWER than '..Said'. Prove '..Said' where nothing that the law and all that it calls make is longer than what came in: it says more and counts as full. Else prove '..UptoSaid'. A law counts once. -/
mutual
def uptoBulk {H : Type} : DataW H → Nat
  | .lit (.string bytes) => bytes.length + 1
  | .lit _ => 1
  | .nil => 1
  | .ptr d => uptoBulk d + 1
  | .slice elems spare => uptoBulkAll elems + uptoBulkAll spare + 1
  | .agg parts => uptoBulkAll parts + 1
  | .iface _ d => uptoBulk d + 1
  | .map entries => uptoBulkEntries entries + 1
  | .held _ => 1
def uptoBulkAll {H : Type} : List (DataW H) → Nat
  | [] => 0
  | d :: r => uptoBulk d + uptoBulkAll r
def uptoBulkEntries {H : Type} : List (Lit × DataW H) → Nat
  | [] => 0
  | x :: r => uptoBulkEntry x + uptoBulkEntries r
def uptoBulkEntry {H : Type} : Lit × DataW H → Nat
  | (.string bytes, d) => bytes.length + uptoBulk d + 1
  | (_, d) => uptoBulk d + 1
 end
def uptoSmall : (H : Type) → List (DataW H) → Bool := fun _ ds => decide (uptoBulkAll ds ≤ 1048576)
def OpenSpec.upto (s : _root_.Go.ChangeSpec) : _root_.Go.OpenSpec := { _root_.Go.OpenSpec.ofChange s with cond := some uptoSmall }

/-- 'inlaylaw11.DirectiveLists', WHERE WHAT IT READS IS OF BULK AT MOST 1048576: true; the input reads as it did. -/
def directiveListsUptoRow : OpenClaim := { program := "ytfoabdpfadgafaadoor", sum := "bd7dda323200be27f84b0257e34198397418c0f6897450a1c649393b847f6d0b", func := "inlay/inlaylaw11.DirectiveLists", spec := "directiveLists", inPlace := ["internal/bytealg.IndexByteString", "internal/bytealg.IndexString", "internal/abi.NoEscape"], unfollowed := true, recurses := true, named := ["unicode/utf8.first", "unicode/utf8.acceptRanges", "internal/bytealg.MaxLen"], apart := false, laid := [("unicode/utf8.acceptRanges", laid_unicode_utf8_acceptRanges), ("unicode/utf8.first", laid_unicode_utf8_first)], narrowed := true }
def DirectiveListsUptoSaid : Prop := directiveListsUptoRow.holds Tryd.pinned (OpenSpec.upto directiveListsSpec)

/-- 'inlaylaw11.DirectiveJoins', WHERE WHAT IT READS IS OF BULK AT MOST 1048576: true; the input reads as it did. -/
def directiveJoinsUptoRow : OpenClaim := { program := "ytfoabdpfadgafaadoor", sum := "bd7dda323200be27f84b0257e34198397418c0f6897450a1c649393b847f6d0b", func := "inlay/inlaylaw11.DirectiveJoins", spec := "directiveJoins", inPlace := ["internal/bytealg.IndexByteString", "internal/bytealg.IndexString", "internal/abi.NoEscape"], unfollowed := true, recurses := true, named := ["unicode/utf8.first", "unicode/utf8.acceptRanges", "internal/bytealg.MaxLen"], apart := false, laid := [("unicode/utf8.acceptRanges", laid_unicode_utf8_acceptRanges), ("unicode/utf8.first", laid_unicode_utf8_first)], narrowed := true }
def DirectiveJoinsUptoSaid : Prop := directiveJoinsUptoRow.holds Tryd.pinned (OpenSpec.upto directiveJoinsSpec)

/-- 'inlaylaw11.DirectiveFinds', WHERE WHAT IT READS IS OF BULK AT MOST 1048576: true; the input reads as it did. -/
def directiveFindsUptoRow : OpenClaim := { program := "ytfoabdpfadgafaadoor", sum := "bd7dda323200be27f84b0257e34198397418c0f6897450a1c649393b847f6d0b", func := "inlay/inlaylaw11.DirectiveFinds", spec := "directiveFinds", inPlace := ["internal/bytealg.IndexByteString", "internal/bytealg.IndexString", "internal/abi.NoEscape"], unfollowed := true, recurses := true, named := ["unicode/utf8.first", "unicode/utf8.acceptRanges", "internal/bytealg.MaxLen"], apart := false, laid := [("unicode/utf8.acceptRanges", laid_unicode_utf8_acceptRanges), ("unicode/utf8.first", laid_unicode_utf8_first)], narrowed := true }
def DirectiveFindsUptoSaid : Prop := directiveFindsUptoRow.holds Tryd.pinned (OpenSpec.upto directiveFindsSpec)

/-- 'inlaylaw11.DirectiveBack', WHERE WHAT IT READS IS OF BULK AT MOST 1048576: true; the input reads as it did. -/
def directiveBackUptoRow : OpenClaim := { program := "ytfoabdpfadgafaadoor", sum := "bd7dda323200be27f84b0257e34198397418c0f6897450a1c649393b847f6d0b", func := "inlay/inlaylaw11.DirectiveBack", spec := "directiveBack", inPlace := ["internal/bytealg.IndexByteString", "internal/bytealg.IndexString", "internal/abi.NoEscape", "internal/bytealg.MakeNoZero"], unfollowed := true, recurses := true, named := ["unicode/utf8.first", "unicode/utf8.acceptRanges", "internal/bytealg.MaxLen"], apart := false, laid := [("unicode/utf8.acceptRanges", laid_unicode_utf8_acceptRanges), ("unicode/utf8.first", laid_unicode_utf8_first)], narrowed := true }
def DirectiveBackUptoSaid : Prop := directiveBackUptoRow.holds Tryd.pinned (OpenSpec.upto directiveBackSpec)

/-- 'inlaylaw11.DirectiveKnown', WHERE WHAT IT READS IS OF BULK AT MOST 1048576: true; the input reads as it did. -/
def directiveKnownUptoRow : OpenClaim := { program := "ytfoabdpfadgafaadoor", sum := "bd7dda323200be27f84b0257e34198397418c0f6897450a1c649393b847f6d0b", func := "inlay/inlaylaw11.DirectiveKnown", spec := "directiveKnown", inPlace := ["internal/bytealg.IndexByteString", "internal/bytealg.IndexString", "internal/abi.NoEscape", "internal/bytealg.MakeNoZero"], unfollowed := true, recurses := true, named := ["unicode/utf8.first", "unicode/utf8.acceptRanges", "internal/bytealg.MaxLen"], apart := false, laid := [("unicode/utf8.acceptRanges", laid_unicode_utf8_acceptRanges), ("unicode/utf8.first", laid_unicode_utf8_first)], narrowed := true }
def DirectiveKnownUptoSaid : Prop := directiveKnownUptoRow.holds Tryd.pinned (OpenSpec.upto directiveKnownSpec)

/-- 'inlaylaw12.SurctlLists', WHERE WHAT IT READS IS OF BULK AT MOST 1048576: true; the input reads as it did. -/
def surctlListsUptoRow : OpenClaim := { program := "ytfoabdpfadgafaadoor", sum := "bd7dda323200be27f84b0257e34198397418c0f6897450a1c649393b847f6d0b", func := "inlay/inlaylaw12.SurctlLists", spec := "surctlLists", inPlace := ["internal/bytealg.IndexByteString", "internal/bytealg.IndexString", "internal/abi.NoEscape"], unfollowed := true, recurses := true, named := ["unicode/utf8.first", "unicode/utf8.acceptRanges", "internal/bytealg.MaxLen"], apart := false, laid := [("unicode/utf8.acceptRanges", laid_unicode_utf8_acceptRanges), ("unicode/utf8.first", laid_unicode_utf8_first)], narrowed := true }
def SurctlListsUptoSaid : Prop := surctlListsUptoRow.holds Tryd.pinned (OpenSpec.upto surctlListsSpec)

/-- 'inlaylaw12.SurctlMine', WHERE WHAT IT READS IS OF BULK AT MOST 1048576: true; the input reads as it did. -/
def surctlMineUptoRow : OpenClaim := { program := "ytfoabdpfadgafaadoor", sum := "bd7dda323200be27f84b0257e34198397418c0f6897450a1c649393b847f6d0b", func := "inlay/inlaylaw12.SurctlMine", spec := "surctlMine", inPlace := ["internal/bytealg.IndexByteString", "internal/bytealg.IndexString", "internal/abi.NoEscape"], unfollowed := true, recurses := true, named := ["unicode/utf8.first", "unicode/utf8.acceptRanges", "internal/bytealg.MaxLen"], apart := false, laid := [("unicode/utf8.acceptRanges", laid_unicode_utf8_acceptRanges), ("unicode/utf8.first", laid_unicode_utf8_first)], narrowed := true }
def SurctlMineUptoSaid : Prop := surctlMineUptoRow.holds Tryd.pinned (OpenSpec.upto surctlMineSpec)

/-- 'inlaylaw12.SurctlOthers', WHERE WHAT IT READS IS OF BULK AT MOST 1048576: true; the input reads as it did. -/
def surctlOthersUptoRow : OpenClaim := { program := "ytfoabdpfadgafaadoor", sum := "bd7dda323200be27f84b0257e34198397418c0f6897450a1c649393b847f6d0b", func := "inlay/inlaylaw12.SurctlOthers", spec := "surctlOthers", inPlace := ["internal/bytealg.IndexByteString", "internal/bytealg.IndexString", "internal/abi.NoEscape"], unfollowed := true, recurses := true, named := ["unicode/utf8.first", "unicode/utf8.acceptRanges", "internal/bytealg.MaxLen"], apart := false, laid := [("unicode/utf8.acceptRanges", laid_unicode_utf8_acceptRanges), ("unicode/utf8.first", laid_unicode_utf8_first)], narrowed := true }
def SurctlOthersUptoSaid : Prop := surctlOthersUptoRow.holds Tryd.pinned (OpenSpec.upto surctlOthersSpec)

/-- 'inlaylaw12.SurctlTells', WHERE WHAT IT READS IS OF BULK AT MOST 1048576: true; the input reads as it did. -/
def surctlTellsUptoRow : OpenClaim := { program := "ytfoabdpfadgafaadoor", sum := "bd7dda323200be27f84b0257e34198397418c0f6897450a1c649393b847f6d0b", func := "inlay/inlaylaw12.SurctlTells", spec := "surctlTells", inPlace := ["internal/bytealg.IndexByteString", "internal/bytealg.IndexString", "internal/abi.NoEscape"], unfollowed := true, recurses := true, named := ["unicode/utf8.first", "unicode/utf8.acceptRanges", "internal/bytealg.MaxLen"], apart := false, laid := [("unicode/utf8.acceptRanges", laid_unicode_utf8_acceptRanges), ("unicode/utf8.first", laid_unicode_utf8_first)], narrowed := true }
def SurctlTellsUptoSaid : Prop := surctlTellsUptoRow.holds Tryd.pinned (OpenSpec.upto surctlTellsSpec)

/-- 'inlaylaw12.SurctlKnown', WHERE WHAT IT READS IS OF BULK AT MOST 1048576: true; the input reads as it did. -/
def surctlKnownUptoRow : OpenClaim := { program := "ytfoabdpfadgafaadoor", sum := "bd7dda323200be27f84b0257e34198397418c0f6897450a1c649393b847f6d0b", func := "inlay/inlaylaw12.SurctlKnown", spec := "surctlKnown", inPlace := ["internal/bytealg.IndexByteString", "internal/bytealg.IndexString", "internal/abi.NoEscape"], unfollowed := true, recurses := true, named := ["unicode/utf8.first", "unicode/utf8.acceptRanges", "internal/bytealg.MaxLen"], apart := false, laid := [("unicode/utf8.acceptRanges", laid_unicode_utf8_acceptRanges), ("unicode/utf8.first", laid_unicode_utf8_first)], narrowed := true }
def SurctlKnownUptoSaid : Prop := surctlKnownUptoRow.holds Tryd.pinned (OpenSpec.upto surctlKnownSpec)

end Rows
end Go.Proofs.YtfoabdpfadgafaaDoor
