/-
  DERIVED. GIVEN WITH THE SEED: THE CARDS: each row of YthppcaoldobocaaDoorRows.lean that lists a variable, with what it lists TIED to the program's text (the seventh form; the later family's looks); each row that meets fmt, with fmt's text TOLD by the authors' own Lean function (tested against real Go, not proved from fmt's source: count such statements apart). THE CARD IS WHAT COUNTS. Prove the row's statement (the work); the ties are given (YthppcaoldobocaaDoorTie.lean); close each card by the builder's one call (the guide's Derived/Test/ToyasCard.lean, 'card_holds'). Laid BY PROGRAM, IN A SANDBOX (cutbox-door.mjs). By AI agents, Wed Nov 11 2026. No macro, syntax, notation, axiom, sorry.
-/
import Derived.Test.YthppcaoldobocaaDoorRows
import GoSem.ClaimSeven
namespace Go.Proofs.YthppcaoldobocaaDoor
namespace Rows

/-- THE TIED CARD OF 'inlaylaw04.FieldsParses'. -/
def fieldsParsesCard : Claim7 := { stood := { row := fieldsParsesRow, standIns := [], harness := (true, "d53d494c5dbb0c3a08f07b3fbeb2eca10b9c30001343da6a40d1cc0c95506f46"), looks := false }, kinds := [], alts := [], laidByText := true, laidKinds := [.data, .pinned], laidTests := true, laidLooks := .later }
def FieldsParsesCardSaid : Prop := Claim7.holds Tryd.pinned (.plain (OpenSpec.ofChange fieldsParsesSpec)) fieldsParsesCard

/-- THE TIED CARD OF 'inlaylaw04.FieldsPuts'. -/
def fieldsPutsCard : Claim7 := { stood := { row := fieldsPutsRow, standIns := [], harness := (true, "d53d494c5dbb0c3a08f07b3fbeb2eca10b9c30001343da6a40d1cc0c95506f46"), looks := false }, kinds := [], alts := [], laidByText := true, laidKinds := [.data, .pinned], laidTests := true, laidLooks := .later }
def FieldsPutsCardSaid : Prop := Claim7.holds Tryd.pinned (.plain (OpenSpec.ofChange fieldsPutsSpec)) fieldsPutsCard

/-- THE TIED CARD OF 'inlaylaw04.FieldsBack'. -/
def fieldsBackCard : Claim7 := { stood := { row := fieldsBackRow, standIns := [], harness := (true, "d53d494c5dbb0c3a08f07b3fbeb2eca10b9c30001343da6a40d1cc0c95506f46"), looks := false }, kinds := [], alts := [], laidByText := true, laidKinds := [.data, .pinned], laidTests := true, laidLooks := .later }
def FieldsBackCardSaid : Prop := Claim7.holds Tryd.pinned (.plain (OpenSpec.ofChange fieldsBackSpec)) fieldsBackCard

/-- THE TIED CARD OF 'inlaylaw04.FieldsLooks'. -/
def fieldsLooksCard : Claim7 := { stood := { row := fieldsLooksRow, standIns := [], harness := (true, "d53d494c5dbb0c3a08f07b3fbeb2eca10b9c30001343da6a40d1cc0c95506f46"), looks := false }, kinds := [], alts := [], laidByText := true, laidKinds := [.data, .pinned], laidTests := true, laidLooks := .later }
def FieldsLooksCardSaid : Prop := Claim7.holds Tryd.pinned (.plain (OpenSpec.ofChange fieldsLooksSpec)) fieldsLooksCard

/-- THE TIED CARD OF 'inlaylaw04.FieldsSets'. -/
def fieldsSetsCard : Claim7 := { stood := { row := fieldsSetsRow, standIns := [], harness := (true, "d53d494c5dbb0c3a08f07b3fbeb2eca10b9c30001343da6a40d1cc0c95506f46"), looks := false }, kinds := [], alts := [], laidByText := true, laidKinds := [.data, .pinned], laidTests := true, laidLooks := .later }
def FieldsSetsCardSaid : Prop := Claim7.holds Tryd.pinned (.plain (OpenSpec.ofChange fieldsSetsSpec)) fieldsSetsCard

/-- THE TIED CARD OF 'inlaylaw04.FieldsHops'. -/
def fieldsHopsCard : Claim7 := { stood := { row := fieldsHopsRow, standIns := [], harness := (true, "d53d494c5dbb0c3a08f07b3fbeb2eca10b9c30001343da6a40d1cc0c95506f46"), looks := false }, kinds := [], alts := [], laidByText := true, laidKinds := [.data, .pinned], laidTests := true, laidLooks := .later }
def FieldsHopsCardSaid : Prop := Claim7.holds Tryd.pinned (.plain (OpenSpec.ofChange fieldsHopsSpec)) fieldsHopsCard

/-- THE TIED CARD OF 'inlaylaw04.FieldsClean'. -/
def fieldsCleanCard : Claim7 := { stood := { row := fieldsCleanRow, standIns := [], harness := (true, "d53d494c5dbb0c3a08f07b3fbeb2eca10b9c30001343da6a40d1cc0c95506f46"), looks := false }, kinds := [], alts := [], laidByText := true, laidKinds := [.data, .pinned], laidTests := true, laidLooks := .later }
def FieldsCleanCardSaid : Prop := Claim7.holds Tryd.pinned (.plain (OpenSpec.ofChange fieldsCleanSpec)) fieldsCleanCard

/-- THE TIED CARD OF 'inlaylaw04.FieldsKnown'. -/
def fieldsKnownCard : Claim7 := { stood := { row := fieldsKnownRow, standIns := [], harness := (true, "d53d494c5dbb0c3a08f07b3fbeb2eca10b9c30001343da6a40d1cc0c95506f46"), looks := false }, kinds := [], alts := [], laidByText := true, laidKinds := [.data, .pinned], laidTests := true, laidLooks := .later }
def FieldsKnownCardSaid : Prop := Claim7.holds Tryd.pinned (.plain (OpenSpec.ofChange fieldsKnownSpec)) fieldsKnownCard

/-- THE SECOND FORM's CARD OF 'inlaylaw04.FieldsParses'. -/
def fieldsParsesUptoCard : Claim7 := { stood := { row := fieldsParsesUptoRow, standIns := [], harness := (true, "d53d494c5dbb0c3a08f07b3fbeb2eca10b9c30001343da6a40d1cc0c95506f46"), looks := false }, kinds := [], alts := [], laidByText := true, laidKinds := [.data, .pinned], laidTests := true, laidLooks := .later }
def FieldsParsesUptoCardSaid : Prop := Claim7.holds Tryd.pinned (.plain (OpenSpec.upto fieldsParsesSpec)) fieldsParsesUptoCard

/-- THE SECOND FORM's CARD OF 'inlaylaw04.FieldsPuts'. -/
def fieldsPutsUptoCard : Claim7 := { stood := { row := fieldsPutsUptoRow, standIns := [], harness := (true, "d53d494c5dbb0c3a08f07b3fbeb2eca10b9c30001343da6a40d1cc0c95506f46"), looks := false }, kinds := [], alts := [], laidByText := true, laidKinds := [.data, .pinned], laidTests := true, laidLooks := .later }
def FieldsPutsUptoCardSaid : Prop := Claim7.holds Tryd.pinned (.plain (OpenSpec.upto fieldsPutsSpec)) fieldsPutsUptoCard

/-- THE SECOND FORM's CARD OF 'inlaylaw04.FieldsBack'. -/
def fieldsBackUptoCard : Claim7 := { stood := { row := fieldsBackUptoRow, standIns := [], harness := (true, "d53d494c5dbb0c3a08f07b3fbeb2eca10b9c30001343da6a40d1cc0c95506f46"), looks := false }, kinds := [], alts := [], laidByText := true, laidKinds := [.data, .pinned], laidTests := true, laidLooks := .later }
def FieldsBackUptoCardSaid : Prop := Claim7.holds Tryd.pinned (.plain (OpenSpec.upto fieldsBackSpec)) fieldsBackUptoCard

/-- THE SECOND FORM's CARD OF 'inlaylaw04.FieldsLooks'. -/
def fieldsLooksUptoCard : Claim7 := { stood := { row := fieldsLooksUptoRow, standIns := [], harness := (true, "d53d494c5dbb0c3a08f07b3fbeb2eca10b9c30001343da6a40d1cc0c95506f46"), looks := false }, kinds := [], alts := [], laidByText := true, laidKinds := [.data, .pinned], laidTests := true, laidLooks := .later }
def FieldsLooksUptoCardSaid : Prop := Claim7.holds Tryd.pinned (.plain (OpenSpec.upto fieldsLooksSpec)) fieldsLooksUptoCard

/-- THE SECOND FORM's CARD OF 'inlaylaw04.FieldsSets'. -/
def fieldsSetsUptoCard : Claim7 := { stood := { row := fieldsSetsUptoRow, standIns := [], harness := (true, "d53d494c5dbb0c3a08f07b3fbeb2eca10b9c30001343da6a40d1cc0c95506f46"), looks := false }, kinds := [], alts := [], laidByText := true, laidKinds := [.data, .pinned], laidTests := true, laidLooks := .later }
def FieldsSetsUptoCardSaid : Prop := Claim7.holds Tryd.pinned (.plain (OpenSpec.upto fieldsSetsSpec)) fieldsSetsUptoCard

/-- THE SECOND FORM's CARD OF 'inlaylaw04.FieldsHops'. -/
def fieldsHopsUptoCard : Claim7 := { stood := { row := fieldsHopsUptoRow, standIns := [], harness := (true, "d53d494c5dbb0c3a08f07b3fbeb2eca10b9c30001343da6a40d1cc0c95506f46"), looks := false }, kinds := [], alts := [], laidByText := true, laidKinds := [.data, .pinned], laidTests := true, laidLooks := .later }
def FieldsHopsUptoCardSaid : Prop := Claim7.holds Tryd.pinned (.plain (OpenSpec.upto fieldsHopsSpec)) fieldsHopsUptoCard

/-- THE SECOND FORM's CARD OF 'inlaylaw04.FieldsClean'. -/
def fieldsCleanUptoCard : Claim7 := { stood := { row := fieldsCleanUptoRow, standIns := [], harness := (true, "d53d494c5dbb0c3a08f07b3fbeb2eca10b9c30001343da6a40d1cc0c95506f46"), looks := false }, kinds := [], alts := [], laidByText := true, laidKinds := [.data, .pinned], laidTests := true, laidLooks := .later }
def FieldsCleanUptoCardSaid : Prop := Claim7.holds Tryd.pinned (.plain (OpenSpec.upto fieldsCleanSpec)) fieldsCleanUptoCard

/-- THE SECOND FORM's CARD OF 'inlaylaw04.FieldsKnown'. -/
def fieldsKnownUptoCard : Claim7 := { stood := { row := fieldsKnownUptoRow, standIns := [], harness := (true, "d53d494c5dbb0c3a08f07b3fbeb2eca10b9c30001343da6a40d1cc0c95506f46"), looks := false }, kinds := [], alts := [], laidByText := true, laidKinds := [.data, .pinned], laidTests := true, laidLooks := .later }
def FieldsKnownUptoCardSaid : Prop := Claim7.holds Tryd.pinned (.plain (OpenSpec.upto fieldsKnownSpec)) fieldsKnownUptoCard
end Rows
end Go.Proofs.YthppcaoldobocaaDoor
