/-
  DERIVED. GIVEN WITH THE SEED: THE CARDS: each row of YtclcigbcianimaaDoorRows.lean that lists a variable, with what it lists TIED to the program's text (the seventh form; the later family's looks); each row that meets fmt, with fmt's text TOLD by the authors' own Lean function (tested against real Go, not proved from fmt's source: count such statements apart). THE CARD IS WHAT COUNTS. Prove the row's statement (the work); the ties are given (YtclcigbcianimaaDoorTie.lean); close each card by the builder's one call (the guide's Derived/Test/ToyasCard.lean, 'card_holds'). Laid BY PROGRAM, IN A SANDBOX (cutbox-door.mjs). By AI agents, Wed Nov 11 2026. No macro, syntax, notation, axiom, sorry.
-/
import Derived.Test.YtclcigbcianimaaDoorRows
import GoSem.ClaimSeven
namespace Go.Proofs.YtclcigbcianimaaDoor
namespace Rows

/-- THE TIED CARD OF 'inlaylaw01.TextWords'. -/
def textWordsCard : Claim7 := { stood := { row := textWordsRow, standIns := [], harness := (true, "db6b942f53c73d2d08dd801ccd8700e66132824f2925ec5062e0998b882c4a44"), looks := false }, kinds := [], alts := [], laidByText := true, laidKinds := [.data, .pinned], laidTests := true, laidLooks := .later }
def TextWordsCardSaid : Prop := Claim7.holds Tryd.pinned (.plain (OpenSpec.ofChange textWordsSpec)) textWordsCard

/-- THE TIED CARD OF 'inlaylaw01.TextSplits'. -/
def textSplitsCard : Claim7 := { stood := { row := textSplitsRow, standIns := [], harness := (true, "db6b942f53c73d2d08dd801ccd8700e66132824f2925ec5062e0998b882c4a44"), looks := false }, kinds := [], alts := [], laidByText := true, laidKinds := [.data, .pinned], laidTests := true, laidLooks := .later }
def TextSplitsCardSaid : Prop := Claim7.holds Tryd.pinned (.plain (OpenSpec.ofChange textSplitsSpec)) textSplitsCard

/-- THE TIED CARD OF 'inlaylaw01.TextStays'. -/
def textStaysCard : Claim7 := { stood := { row := textStaysRow, standIns := [], harness := (true, "db6b942f53c73d2d08dd801ccd8700e66132824f2925ec5062e0998b882c4a44"), looks := false }, kinds := [], alts := [], laidByText := true, laidKinds := [.data, .pinned], laidTests := true, laidLooks := .later }
def TextStaysCardSaid : Prop := Claim7.holds Tryd.pinned (.plain (OpenSpec.ofChange textStaysSpec)) textStaysCard

/-- THE TIED CARD OF 'inlaylaw01.TextJoins'. -/
def textJoinsCard : Claim7 := { stood := { row := textJoinsRow, standIns := [], harness := (true, "db6b942f53c73d2d08dd801ccd8700e66132824f2925ec5062e0998b882c4a44"), looks := false }, kinds := [], alts := [], laidByText := true, laidKinds := [.data, .pinned], laidTests := true, laidLooks := .later }
def TextJoinsCardSaid : Prop := Claim7.holds Tryd.pinned (.plain (OpenSpec.ofChange textJoinsSpec)) textJoinsCard

/-- THE TIED CARD OF 'inlaylaw01.TextKnown'. -/
def textKnownCard : Claim7 := { stood := { row := textKnownRow, standIns := [], harness := (true, "db6b942f53c73d2d08dd801ccd8700e66132824f2925ec5062e0998b882c4a44"), looks := false }, kinds := [], alts := [], laidByText := true, laidKinds := [.data, .pinned], laidTests := true, laidLooks := .later }
def TextKnownCardSaid : Prop := Claim7.holds Tryd.pinned (.plain (OpenSpec.ofChange textKnownSpec)) textKnownCard

/-- THE SECOND FORM's CARD OF 'inlaylaw01.TextWords'. -/
def textWordsUptoCard : Claim7 := { stood := { row := textWordsUptoRow, standIns := [], harness := (true, "db6b942f53c73d2d08dd801ccd8700e66132824f2925ec5062e0998b882c4a44"), looks := false }, kinds := [], alts := [], laidByText := true, laidKinds := [.data, .pinned], laidTests := true, laidLooks := .later }
def TextWordsUptoCardSaid : Prop := Claim7.holds Tryd.pinned (.plain (OpenSpec.upto textWordsSpec)) textWordsUptoCard

/-- THE SECOND FORM's CARD OF 'inlaylaw01.TextSplits'. -/
def textSplitsUptoCard : Claim7 := { stood := { row := textSplitsUptoRow, standIns := [], harness := (true, "db6b942f53c73d2d08dd801ccd8700e66132824f2925ec5062e0998b882c4a44"), looks := false }, kinds := [], alts := [], laidByText := true, laidKinds := [.data, .pinned], laidTests := true, laidLooks := .later }
def TextSplitsUptoCardSaid : Prop := Claim7.holds Tryd.pinned (.plain (OpenSpec.upto textSplitsSpec)) textSplitsUptoCard

/-- THE SECOND FORM's CARD OF 'inlaylaw01.TextStays'. -/
def textStaysUptoCard : Claim7 := { stood := { row := textStaysUptoRow, standIns := [], harness := (true, "db6b942f53c73d2d08dd801ccd8700e66132824f2925ec5062e0998b882c4a44"), looks := false }, kinds := [], alts := [], laidByText := true, laidKinds := [.data, .pinned], laidTests := true, laidLooks := .later }
def TextStaysUptoCardSaid : Prop := Claim7.holds Tryd.pinned (.plain (OpenSpec.upto textStaysSpec)) textStaysUptoCard

/-- THE SECOND FORM's CARD OF 'inlaylaw01.TextJoins'. -/
def textJoinsUptoCard : Claim7 := { stood := { row := textJoinsUptoRow, standIns := [], harness := (true, "db6b942f53c73d2d08dd801ccd8700e66132824f2925ec5062e0998b882c4a44"), looks := false }, kinds := [], alts := [], laidByText := true, laidKinds := [.data, .pinned], laidTests := true, laidLooks := .later }
def TextJoinsUptoCardSaid : Prop := Claim7.holds Tryd.pinned (.plain (OpenSpec.upto textJoinsSpec)) textJoinsUptoCard

/-- THE SECOND FORM's CARD OF 'inlaylaw01.TextKnown'. -/
def textKnownUptoCard : Claim7 := { stood := { row := textKnownUptoRow, standIns := [], harness := (true, "db6b942f53c73d2d08dd801ccd8700e66132824f2925ec5062e0998b882c4a44"), looks := false }, kinds := [], alts := [], laidByText := true, laidKinds := [.data, .pinned], laidTests := true, laidLooks := .later }
def TextKnownUptoCardSaid : Prop := Claim7.holds Tryd.pinned (.plain (OpenSpec.upto textKnownSpec)) textKnownUptoCard
end Rows
end Go.Proofs.YtclcigbcianimaaDoor
