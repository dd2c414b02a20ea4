/-
  DERIVED. GIVEN WITH THE SEED: THE CARDS: each row of YtdlajobnnnmojaaDoorRows.lean that lists a variable, with what it lists TIED to the program's text (the seventh form; the later family's looks); each row that meets fmt, with fmt's text TOLD by the authors' own Lean function (tested against real Go, not proved from fmt's source: count such statements apart). THE CARD IS WHAT COUNTS. Prove the row's statement (the work); the ties are given (YtdlajobnnnmojaaDoorTie.lean); close each card by the builder's one call (the guide's Derived/Test/ToyasCard.lean, 'card_holds'). Laid BY PROGRAM, IN A SANDBOX (cutbox-door.mjs). By AI agents, Wed Nov 11 2026. No macro, syntax, notation, axiom, sorry.
-/
import Derived.Test.YtdlajobnnnmojaaDoorRows
import GoSem.ClaimSeven
namespace Go.Proofs.YtdlajobnnnmojaaDoor
namespace Rows

/-- THE TIED CARD OF 'inlaylaw15.VaryNames'. -/
def varyNamesCard : Claim7 := { stood := { row := varyNamesRow, standIns := [], harness := (true, "b506d502192843ae66cc5e41abc6b74ce7b694647c6b6ecc3f9068742e7b4227"), looks := false }, kinds := [], alts := [], laidByText := true, laidKinds := [.data, .pinned], laidTests := true, laidLooks := .later }
def VaryNamesCardSaid : Prop := Claim7.holds Tryd.pinned (.plain (OpenSpec.ofChange varyNamesSpec)) varyNamesCard

/-- THE TIED CARD OF 'inlaylaw15.VarySelects'. -/
def varySelectsCard : Claim7 := { stood := { row := varySelectsRow, standIns := [], harness := (true, "b506d502192843ae66cc5e41abc6b74ce7b694647c6b6ecc3f9068742e7b4227"), looks := false }, kinds := [], alts := [], laidByText := true, laidKinds := [.data, .pinned], laidTests := true, laidLooks := .later }
def VarySelectsCardSaid : Prop := Claim7.holds Tryd.pinned (.plain (OpenSpec.ofChange varySelectsSpec)) varySelectsCard

/-- THE TIED CARD OF 'inlaylaw15.VaryKnown'. -/
def varyKnownCard : Claim7 := { stood := { row := varyKnownRow, standIns := [], harness := (true, "b506d502192843ae66cc5e41abc6b74ce7b694647c6b6ecc3f9068742e7b4227"), looks := false }, kinds := [], alts := [], laidByText := true, laidKinds := [.data, .pinned], laidTests := true, laidLooks := .later }
def VaryKnownCardSaid : Prop := Claim7.holds Tryd.pinned (.plain (OpenSpec.ofChange varyKnownSpec)) varyKnownCard

/-- THE TIED CARD OF 'inlaylaw15.VaryChooses'. -/
def varyChoosesCard : Claim7 := { stood := { row := varyChoosesRow, standIns := [], harness := (true, "b506d502192843ae66cc5e41abc6b74ce7b694647c6b6ecc3f9068742e7b4227"), looks := false }, kinds := [], alts := [], laidByText := true, laidKinds := [.data, .pinned], laidTests := true, laidLooks := .later }
def VaryChoosesCardSaid : Prop := Claim7.holds Tryd.pinned (.plain (OpenSpec.ofChange varyChoosesSpec)) varyChoosesCard

/-- THE TIED CARD OF 'inlaylaw15.VaryForms'. -/
def varyFormsCard : Claim7 := { stood := { row := varyFormsRow, standIns := [], harness := (true, "b506d502192843ae66cc5e41abc6b74ce7b694647c6b6ecc3f9068742e7b4227"), looks := false }, kinds := [], alts := [], laidByText := true, laidKinds := [.data, .pinned], laidTests := true, laidLooks := .later }
def VaryFormsCardSaid : Prop := Claim7.holds Tryd.pinned (.plain (OpenSpec.ofChange varyFormsSpec)) varyFormsCard

/-- THE SECOND FORM's CARD OF 'inlaylaw15.VaryNames'. -/
def varyNamesUptoCard : Claim7 := { stood := { row := varyNamesUptoRow, standIns := [], harness := (true, "b506d502192843ae66cc5e41abc6b74ce7b694647c6b6ecc3f9068742e7b4227"), looks := false }, kinds := [], alts := [], laidByText := true, laidKinds := [.data, .pinned], laidTests := true, laidLooks := .later }
def VaryNamesUptoCardSaid : Prop := Claim7.holds Tryd.pinned (.plain (OpenSpec.upto varyNamesSpec)) varyNamesUptoCard

/-- THE SECOND FORM's CARD OF 'inlaylaw15.VarySelects'. -/
def varySelectsUptoCard : Claim7 := { stood := { row := varySelectsUptoRow, standIns := [], harness := (true, "b506d502192843ae66cc5e41abc6b74ce7b694647c6b6ecc3f9068742e7b4227"), looks := false }, kinds := [], alts := [], laidByText := true, laidKinds := [.data, .pinned], laidTests := true, laidLooks := .later }
def VarySelectsUptoCardSaid : Prop := Claim7.holds Tryd.pinned (.plain (OpenSpec.upto varySelectsSpec)) varySelectsUptoCard

/-- THE SECOND FORM's CARD OF 'inlaylaw15.VaryKnown'. -/
def varyKnownUptoCard : Claim7 := { stood := { row := varyKnownUptoRow, standIns := [], harness := (true, "b506d502192843ae66cc5e41abc6b74ce7b694647c6b6ecc3f9068742e7b4227"), looks := false }, kinds := [], alts := [], laidByText := true, laidKinds := [.data, .pinned], laidTests := true, laidLooks := .later }
def VaryKnownUptoCardSaid : Prop := Claim7.holds Tryd.pinned (.plain (OpenSpec.upto varyKnownSpec)) varyKnownUptoCard

/-- THE SECOND FORM's CARD OF 'inlaylaw15.VaryChooses'. -/
def varyChoosesUptoCard : Claim7 := { stood := { row := varyChoosesUptoRow, standIns := [], harness := (true, "b506d502192843ae66cc5e41abc6b74ce7b694647c6b6ecc3f9068742e7b4227"), looks := false }, kinds := [], alts := [], laidByText := true, laidKinds := [.data, .pinned], laidTests := true, laidLooks := .later }
def VaryChoosesUptoCardSaid : Prop := Claim7.holds Tryd.pinned (.plain (OpenSpec.upto varyChoosesSpec)) varyChoosesUptoCard

/-- THE SECOND FORM's CARD OF 'inlaylaw15.VaryForms'. -/
def varyFormsUptoCard : Claim7 := { stood := { row := varyFormsUptoRow, standIns := [], harness := (true, "b506d502192843ae66cc5e41abc6b74ce7b694647c6b6ecc3f9068742e7b4227"), looks := false }, kinds := [], alts := [], laidByText := true, laidKinds := [.data, .pinned], laidTests := true, laidLooks := .later }
def VaryFormsUptoCardSaid : Prop := Claim7.holds Tryd.pinned (.plain (OpenSpec.upto varyFormsSpec)) varyFormsUptoCard
end Rows
end Go.Proofs.YtdlajobnnnmojaaDoor
