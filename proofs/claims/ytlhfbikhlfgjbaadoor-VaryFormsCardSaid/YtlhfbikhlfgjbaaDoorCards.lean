/-
  DERIVED. GIVEN WITH THE SEED: THE CARDS: each row of YtlhfbikhlfgjbaaDoorRows.lean that lists a variable, with what it lists TIED to the program's text (the seventh form; the later family's looks); each row that meets fmt, with fmt's text TOLD by the authors' own Lean function (tested against real Go, not proved from fmt's source: count such statements apart). THE CARD IS WHAT COUNTS. Prove the row's statement (the work); the ties are given (YtlhfbikhlfgjbaaDoorTie.lean); close each card by the builder's one call (the guide's Derived/Test/ToyasCard.lean, 'card_holds'). Laid BY PROGRAM, IN A SANDBOX (cutbox-door.mjs). By AI agents, Wed Nov 11 2026. No macro, syntax, notation, axiom, sorry.
-/
import Derived.Test.YtlhfbikhlfgjbaaDoorRows
import GoSem.ClaimSeven
namespace Go.Proofs.YtlhfbikhlfgjbaaDoor
namespace Rows

/-- THE TIED CARD OF 'inlaylaw11.DirectiveBack'. -/
def directiveBackCard : Claim7 := { stood := { row := directiveBackRow, standIns := [], harness := (true, "cdb789fad925c2fe7d8cfe1405b70894d1b0623bf9fbfe8b6144509b00a86c01"), looks := false }, kinds := [], alts := [], laidByText := true, laidKinds := [.data, .pinned], laidTests := true, laidLooks := .later }
def DirectiveBackCardSaid : Prop := Claim7.holds Tryd.pinned (.plain (OpenSpec.ofChange directiveBackSpec)) directiveBackCard

/-- THE TIED CARD OF 'inlaylaw12.SurctlOthers'. -/
def surctlOthersCard : Claim7 := { stood := { row := surctlOthersRow, standIns := [], harness := (true, "cdb789fad925c2fe7d8cfe1405b70894d1b0623bf9fbfe8b6144509b00a86c01"), looks := false }, kinds := [], alts := [], laidByText := true, laidKinds := [.data, .pinned], laidTests := true, laidLooks := .later }
def SurctlOthersCardSaid : Prop := Claim7.holds Tryd.pinned (.plain (OpenSpec.ofChange surctlOthersSpec)) surctlOthersCard

/-- THE TIED CARD OF 'inlaylaw15.VaryForms'. -/
def varyFormsCard : Claim7 := { stood := { row := varyFormsRow, standIns := [], harness := (true, "cdb789fad925c2fe7d8cfe1405b70894d1b0623bf9fbfe8b6144509b00a86c01"), looks := false }, kinds := [], alts := [], laidByText := true, laidKinds := [.data, .pinned], laidTests := true, laidLooks := .later }
def VaryFormsCardSaid : Prop := Claim7.holds Tryd.pinned (.plain (OpenSpec.ofChange varyFormsSpec)) varyFormsCard

/-- THE SECOND FORM's CARD OF 'inlaylaw11.DirectiveBack'. -/
def directiveBackUptoCard : Claim7 := { stood := { row := directiveBackUptoRow, standIns := [], harness := (true, "cdb789fad925c2fe7d8cfe1405b70894d1b0623bf9fbfe8b6144509b00a86c01"), looks := false }, kinds := [], alts := [], laidByText := true, laidKinds := [.data, .pinned], laidTests := true, laidLooks := .later }
def DirectiveBackUptoCardSaid : Prop := Claim7.holds Tryd.pinned (.plain (OpenSpec.upto directiveBackSpec)) directiveBackUptoCard

/-- THE SECOND FORM's CARD OF 'inlaylaw12.SurctlOthers'. -/
def surctlOthersUptoCard : Claim7 := { stood := { row := surctlOthersUptoRow, standIns := [], harness := (true, "cdb789fad925c2fe7d8cfe1405b70894d1b0623bf9fbfe8b6144509b00a86c01"), looks := false }, kinds := [], alts := [], laidByText := true, laidKinds := [.data, .pinned], laidTests := true, laidLooks := .later }
def SurctlOthersUptoCardSaid : Prop := Claim7.holds Tryd.pinned (.plain (OpenSpec.upto surctlOthersSpec)) surctlOthersUptoCard

/-- THE SECOND FORM's CARD OF 'inlaylaw15.VaryForms'. -/
def varyFormsUptoCard : Claim7 := { stood := { row := varyFormsUptoRow, standIns := [], harness := (true, "cdb789fad925c2fe7d8cfe1405b70894d1b0623bf9fbfe8b6144509b00a86c01"), looks := false }, kinds := [], alts := [], laidByText := true, laidKinds := [.data, .pinned], laidTests := true, laidLooks := .later }
def VaryFormsUptoCardSaid : Prop := Claim7.holds Tryd.pinned (.plain (OpenSpec.upto varyFormsSpec)) varyFormsUptoCard
end Rows
end Go.Proofs.YtlhfbikhlfgjbaaDoor
