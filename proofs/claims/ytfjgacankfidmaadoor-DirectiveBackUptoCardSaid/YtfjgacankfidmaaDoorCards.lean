/-
  DERIVED. GIVEN WITH THE SEED: THE CARDS: each row of YtfjgacankfidmaaDoorRows.lean that lists a variable, with what it lists TIED to the program's text (the seventh form; the later family's looks); each row that meets fmt, with fmt's text TOLD by the authors' own Lean function (tested against real Go, not proved from fmt's source: count such statements apart). THE CARD IS WHAT COUNTS. Prove the row's statement (the work); the ties are given (YtfjgacankfidmaaDoorTie.lean); close each card by the builder's one call (the guide's Derived/Test/ToyasCard.lean, 'card_holds'). Laid BY PROGRAM, IN A SANDBOX (cutbox-door.mjs). By AI agents, Wed Nov 11 2026. No macro, syntax, notation, axiom, sorry.
-/
import Derived.Test.YtfjgacankfidmaaDoorRows
import GoSem.ClaimSeven
namespace Go.Proofs.YtfjgacankfidmaaDoor
namespace Rows

/-- THE TIED CARD OF 'inlaylaw11.DirectiveBack'. -/
def directiveBackCard : Claim7 := { stood := { row := directiveBackRow, standIns := [], harness := (true, "2c37d10f7d6b7e6d6dc462072ffb6f8396909430bc87ee74326f87e1a542e88f"), looks := false }, kinds := [], alts := [], laidByText := true, laidKinds := [.data, .pinned], laidTests := true, laidLooks := .later }
def DirectiveBackCardSaid : Prop := Claim7.holds Tryd.pinned (.plain (OpenSpec.ofChange directiveBackSpec)) directiveBackCard

/-- THE SECOND FORM's CARD OF 'inlaylaw11.DirectiveBack'. -/
def directiveBackUptoCard : Claim7 := { stood := { row := directiveBackUptoRow, standIns := [], harness := (true, "2c37d10f7d6b7e6d6dc462072ffb6f8396909430bc87ee74326f87e1a542e88f"), looks := false }, kinds := [], alts := [], laidByText := true, laidKinds := [.data, .pinned], laidTests := true, laidLooks := .later }
def DirectiveBackUptoCardSaid : Prop := Claim7.holds Tryd.pinned (.plain (OpenSpec.upto directiveBackSpec)) directiveBackUptoCard
end Rows
end Go.Proofs.YtfjgacankfidmaaDoor
