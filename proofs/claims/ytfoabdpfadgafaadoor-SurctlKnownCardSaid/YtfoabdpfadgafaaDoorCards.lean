/-
  DERIVED. GIVEN WITH THE SEED: THE CARDS: each row of YtfoabdpfadgafaaDoorRows.lean that lists a variable, with what it lists TIED to the program's text (the seventh form; the later family's looks); each row that meets fmt, with fmt's text TOLD by the authors' own Lean function (tested against real Go, not proved from fmt's source: count such statements apart). THE CARD IS WHAT COUNTS. Prove the row's statement (the work); the ties are given (YtfoabdpfadgafaaDoorTie.lean); close each card by the builder's one call (the guide's Derived/Test/ToyasCard.lean, 'card_holds'). Laid BY PROGRAM, IN A SANDBOX (cutbox-door.mjs). By AI agents, Wed Nov 11 2026. No macro, syntax, notation, axiom, sorry.
-/
import Derived.Test.YtfoabdpfadgafaaDoorRows
import GoSem.ClaimSeven
namespace Go.Proofs.YtfoabdpfadgafaaDoor
namespace Rows

/-- THE TIED CARD OF 'inlaylaw11.DirectiveLists'. -/
def directiveListsCard : Claim7 := { stood := { row := directiveListsRow, standIns := [], harness := (true, "913c7385ced82cfa8b5b150f58f8a57dc17f5988f1734169e342258b5ddfecf8"), looks := false }, kinds := [], alts := [], laidByText := true, laidKinds := [.data, .pinned], laidTests := true, laidLooks := .later }
def DirectiveListsCardSaid : Prop := Claim7.holds Tryd.pinned (.plain (OpenSpec.ofChange directiveListsSpec)) directiveListsCard

/-- THE TIED CARD OF 'inlaylaw11.DirectiveJoins'. -/
def directiveJoinsCard : Claim7 := { stood := { row := directiveJoinsRow, standIns := [], harness := (true, "913c7385ced82cfa8b5b150f58f8a57dc17f5988f1734169e342258b5ddfecf8"), looks := false }, kinds := [], alts := [], laidByText := true, laidKinds := [.data, .pinned], laidTests := true, laidLooks := .later }
def DirectiveJoinsCardSaid : Prop := Claim7.holds Tryd.pinned (.plain (OpenSpec.ofChange directiveJoinsSpec)) directiveJoinsCard

/-- THE TIED CARD OF 'inlaylaw11.DirectiveFinds'. -/
def directiveFindsCard : Claim7 := { stood := { row := directiveFindsRow, standIns := [], harness := (true, "913c7385ced82cfa8b5b150f58f8a57dc17f5988f1734169e342258b5ddfecf8"), looks := false }, kinds := [], alts := [], laidByText := true, laidKinds := [.data, .pinned], laidTests := true, laidLooks := .later }
def DirectiveFindsCardSaid : Prop := Claim7.holds Tryd.pinned (.plain (OpenSpec.ofChange directiveFindsSpec)) directiveFindsCard

/-- THE TIED CARD OF 'inlaylaw11.DirectiveBack'. -/
def directiveBackCard : Claim7 := { stood := { row := directiveBackRow, standIns := [], harness := (true, "913c7385ced82cfa8b5b150f58f8a57dc17f5988f1734169e342258b5ddfecf8"), looks := false }, kinds := [], alts := [], laidByText := true, laidKinds := [.data, .pinned], laidTests := true, laidLooks := .later }
def DirectiveBackCardSaid : Prop := Claim7.holds Tryd.pinned (.plain (OpenSpec.ofChange directiveBackSpec)) directiveBackCard

/-- THE TIED CARD OF 'inlaylaw11.DirectiveKnown'. -/
def directiveKnownCard : Claim7 := { stood := { row := directiveKnownRow, standIns := [], harness := (true, "913c7385ced82cfa8b5b150f58f8a57dc17f5988f1734169e342258b5ddfecf8"), looks := false }, kinds := [], alts := [], laidByText := true, laidKinds := [.data, .pinned], laidTests := true, laidLooks := .later }
def DirectiveKnownCardSaid : Prop := Claim7.holds Tryd.pinned (.plain (OpenSpec.ofChange directiveKnownSpec)) directiveKnownCard

/-- THE TIED CARD OF 'inlaylaw12.SurctlLists'. -/
def surctlListsCard : Claim7 := { stood := { row := surctlListsRow, standIns := [], harness := (true, "913c7385ced82cfa8b5b150f58f8a57dc17f5988f1734169e342258b5ddfecf8"), looks := false }, kinds := [], alts := [], laidByText := true, laidKinds := [.data, .pinned], laidTests := true, laidLooks := .later }
def SurctlListsCardSaid : Prop := Claim7.holds Tryd.pinned (.plain (OpenSpec.ofChange surctlListsSpec)) surctlListsCard

/-- THE TIED CARD OF 'inlaylaw12.SurctlMine'. -/
def surctlMineCard : Claim7 := { stood := { row := surctlMineRow, standIns := [], harness := (true, "913c7385ced82cfa8b5b150f58f8a57dc17f5988f1734169e342258b5ddfecf8"), looks := false }, kinds := [], alts := [], laidByText := true, laidKinds := [.data, .pinned], laidTests := true, laidLooks := .later }
def SurctlMineCardSaid : Prop := Claim7.holds Tryd.pinned (.plain (OpenSpec.ofChange surctlMineSpec)) surctlMineCard

/-- THE TIED CARD OF 'inlaylaw12.SurctlOthers'. -/
def surctlOthersCard : Claim7 := { stood := { row := surctlOthersRow, standIns := [], harness := (true, "913c7385ced82cfa8b5b150f58f8a57dc17f5988f1734169e342258b5ddfecf8"), looks := false }, kinds := [], alts := [], laidByText := true, laidKinds := [.data, .pinned], laidTests := true, laidLooks := .later }
def SurctlOthersCardSaid : Prop := Claim7.holds Tryd.pinned (.plain (OpenSpec.ofChange surctlOthersSpec)) surctlOthersCard

/-- THE TIED CARD OF 'inlaylaw12.SurctlTells'. -/
def surctlTellsCard : Claim7 := { stood := { row := surctlTellsRow, standIns := [], harness := (true, "913c7385ced82cfa8b5b150f58f8a57dc17f5988f1734169e342258b5ddfecf8"), looks := false }, kinds := [], alts := [], laidByText := true, laidKinds := [.data, .pinned], laidTests := true, laidLooks := .later }
def SurctlTellsCardSaid : Prop := Claim7.holds Tryd.pinned (.plain (OpenSpec.ofChange surctlTellsSpec)) surctlTellsCard

/-- THE TIED CARD OF 'inlaylaw12.SurctlKnown'. -/
def surctlKnownCard : Claim7 := { stood := { row := surctlKnownRow, standIns := [], harness := (true, "913c7385ced82cfa8b5b150f58f8a57dc17f5988f1734169e342258b5ddfecf8"), looks := false }, kinds := [], alts := [], laidByText := true, laidKinds := [.data, .pinned], laidTests := true, laidLooks := .later }
def SurctlKnownCardSaid : Prop := Claim7.holds Tryd.pinned (.plain (OpenSpec.ofChange surctlKnownSpec)) surctlKnownCard

/-- THE SECOND FORM's CARD OF 'inlaylaw11.DirectiveLists'. -/
def directiveListsUptoCard : Claim7 := { stood := { row := directiveListsUptoRow, standIns := [], harness := (true, "913c7385ced82cfa8b5b150f58f8a57dc17f5988f1734169e342258b5ddfecf8"), looks := false }, kinds := [], alts := [], laidByText := true, laidKinds := [.data, .pinned], laidTests := true, laidLooks := .later }
def DirectiveListsUptoCardSaid : Prop := Claim7.holds Tryd.pinned (.plain (OpenSpec.upto directiveListsSpec)) directiveListsUptoCard

/-- THE SECOND FORM's CARD OF 'inlaylaw11.DirectiveJoins'. -/
def directiveJoinsUptoCard : Claim7 := { stood := { row := directiveJoinsUptoRow, standIns := [], harness := (true, "913c7385ced82cfa8b5b150f58f8a57dc17f5988f1734169e342258b5ddfecf8"), looks := false }, kinds := [], alts := [], laidByText := true, laidKinds := [.data, .pinned], laidTests := true, laidLooks := .later }
def DirectiveJoinsUptoCardSaid : Prop := Claim7.holds Tryd.pinned (.plain (OpenSpec.upto directiveJoinsSpec)) directiveJoinsUptoCard

/-- THE SECOND FORM's CARD OF 'inlaylaw11.DirectiveFinds'. -/
def directiveFindsUptoCard : Claim7 := { stood := { row := directiveFindsUptoRow, standIns := [], harness := (true, "913c7385ced82cfa8b5b150f58f8a57dc17f5988f1734169e342258b5ddfecf8"), looks := false }, kinds := [], alts := [], laidByText := true, laidKinds := [.data, .pinned], laidTests := true, laidLooks := .later }
def DirectiveFindsUptoCardSaid : Prop := Claim7.holds Tryd.pinned (.plain (OpenSpec.upto directiveFindsSpec)) directiveFindsUptoCard

/-- THE SECOND FORM's CARD OF 'inlaylaw11.DirectiveBack'. -/
def directiveBackUptoCard : Claim7 := { stood := { row := directiveBackUptoRow, standIns := [], harness := (true, "913c7385ced82cfa8b5b150f58f8a57dc17f5988f1734169e342258b5ddfecf8"), looks := false }, kinds := [], alts := [], laidByText := true, laidKinds := [.data, .pinned], laidTests := true, laidLooks := .later }
def DirectiveBackUptoCardSaid : Prop := Claim7.holds Tryd.pinned (.plain (OpenSpec.upto directiveBackSpec)) directiveBackUptoCard

/-- THE SECOND FORM's CARD OF 'inlaylaw11.DirectiveKnown'. -/
def directiveKnownUptoCard : Claim7 := { stood := { row := directiveKnownUptoRow, standIns := [], harness := (true, "913c7385ced82cfa8b5b150f58f8a57dc17f5988f1734169e342258b5ddfecf8"), looks := false }, kinds := [], alts := [], laidByText := true, laidKinds := [.data, .pinned], laidTests := true, laidLooks := .later }
def DirectiveKnownUptoCardSaid : Prop := Claim7.holds Tryd.pinned (.plain (OpenSpec.upto directiveKnownSpec)) directiveKnownUptoCard

/-- THE SECOND FORM's CARD OF 'inlaylaw12.SurctlLists'. -/
def surctlListsUptoCard : Claim7 := { stood := { row := surctlListsUptoRow, standIns := [], harness := (true, "913c7385ced82cfa8b5b150f58f8a57dc17f5988f1734169e342258b5ddfecf8"), looks := false }, kinds := [], alts := [], laidByText := true, laidKinds := [.data, .pinned], laidTests := true, laidLooks := .later }
def SurctlListsUptoCardSaid : Prop := Claim7.holds Tryd.pinned (.plain (OpenSpec.upto surctlListsSpec)) surctlListsUptoCard

/-- THE SECOND FORM's CARD OF 'inlaylaw12.SurctlMine'. -/
def surctlMineUptoCard : Claim7 := { stood := { row := surctlMineUptoRow, standIns := [], harness := (true, "913c7385ced82cfa8b5b150f58f8a57dc17f5988f1734169e342258b5ddfecf8"), looks := false }, kinds := [], alts := [], laidByText := true, laidKinds := [.data, .pinned], laidTests := true, laidLooks := .later }
def SurctlMineUptoCardSaid : Prop := Claim7.holds Tryd.pinned (.plain (OpenSpec.upto surctlMineSpec)) surctlMineUptoCard

/-- THE SECOND FORM's CARD OF 'inlaylaw12.SurctlOthers'. -/
def surctlOthersUptoCard : Claim7 := { stood := { row := surctlOthersUptoRow, standIns := [], harness := (true, "913c7385ced82cfa8b5b150f58f8a57dc17f5988f1734169e342258b5ddfecf8"), looks := false }, kinds := [], alts := [], laidByText := true, laidKinds := [.data, .pinned], laidTests := true, laidLooks := .later }
def SurctlOthersUptoCardSaid : Prop := Claim7.holds Tryd.pinned (.plain (OpenSpec.upto surctlOthersSpec)) surctlOthersUptoCard

/-- THE SECOND FORM's CARD OF 'inlaylaw12.SurctlTells'. -/
def surctlTellsUptoCard : Claim7 := { stood := { row := surctlTellsUptoRow, standIns := [], harness := (true, "913c7385ced82cfa8b5b150f58f8a57dc17f5988f1734169e342258b5ddfecf8"), looks := false }, kinds := [], alts := [], laidByText := true, laidKinds := [.data, .pinned], laidTests := true, laidLooks := .later }
def SurctlTellsUptoCardSaid : Prop := Claim7.holds Tryd.pinned (.plain (OpenSpec.upto surctlTellsSpec)) surctlTellsUptoCard

/-- THE SECOND FORM's CARD OF 'inlaylaw12.SurctlKnown'. -/
def surctlKnownUptoCard : Claim7 := { stood := { row := surctlKnownUptoRow, standIns := [], harness := (true, "913c7385ced82cfa8b5b150f58f8a57dc17f5988f1734169e342258b5ddfecf8"), looks := false }, kinds := [], alts := [], laidByText := true, laidKinds := [.data, .pinned], laidTests := true, laidLooks := .later }
def SurctlKnownUptoCardSaid : Prop := Claim7.holds Tryd.pinned (.plain (OpenSpec.upto surctlKnownSpec)) surctlKnownUptoCard
end Rows
end Go.Proofs.YtfoabdpfadgafaaDoor
