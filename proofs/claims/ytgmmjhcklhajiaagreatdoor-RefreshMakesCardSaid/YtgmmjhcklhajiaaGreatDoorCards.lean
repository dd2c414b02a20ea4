/-
  DERIVED. GIVEN WITH THE SEED: THE CARDS: each row of YtgmmjhcklhajiaaGreatDoorRows.lean that lists a variable, with what it lists TIED to the program's text (the seventh form; the later family's looks); each row that meets fmt, with fmt's text TOLD by the authors' own Lean function (tested against real Go, not proved from fmt's source: count such statements apart). THE CARD IS WHAT COUNTS. Prove the row's statement (the work); the ties are given (YtgmmjhcklhajiaaGreatDoorTie.lean); close each card by the builder's one call (the guide's Derived/Test/ToyasCard.lean, 'card_holds'). Laid BY PROGRAM, IN A SANDBOX (cutbox-door.mjs). By AI agents, Wed Nov 11 2026. No macro, syntax, notation, axiom, sorry.
-/
import Derived.Test.YtgmmjhcklhajiaaGreatDoorRows
import GoSem.ClaimSeven
namespace Go.Proofs.YtgmmjhcklhajiaaGreatDoor
namespace Rows

/-- THE TIED CARD OF 'inlaylaw20.RefreshMakes'. -/
def refreshMakesCard : Claim7 := { stood := { row := refreshMakesRow, standIns := [], harness := (true, "eed07d5b6c6936896de5364ee233b543a757a626de3d0c1d6d9be9df26f75644"), looks := false }, kinds := [], alts := [], laidByText := true, laidKinds := [.data, .listed, .data, .pinned], laidTests := true, laidLooks := .later }
def RefreshMakesCardSaid : Prop := Claim7.holds Tryz.pinned (.plain (OpenSpec.ofChange refreshMakesSpec)) refreshMakesCard

/-- THE TIED CARD OF 'inlaylaw13.FreshAge'. -/
def freshAgeCard : Claim7 := { stood := { row := freshAgeRow, standIns := [], harness := (true, "eed07d5b6c6936896de5364ee233b543a757a626de3d0c1d6d9be9df26f75644"), looks := false }, kinds := [], alts := [], laidByText := true, laidKinds := [.data, .listed, .data, .pinned], laidTests := true, laidLooks := .later }
def FreshAgeCardSaid : Prop := Claim7.holds Tryz.pinned (.plain (OpenSpec.ofChange freshAgeSpec)) freshAgeCard

/-- THE TIED CARD OF 'inlaylaw13.FreshGoes'. -/
def freshGoesCard : Claim7 := { stood := { row := freshGoesRow, standIns := [], harness := (true, "eed07d5b6c6936896de5364ee233b543a757a626de3d0c1d6d9be9df26f75644"), looks := false }, kinds := [], alts := [], laidByText := true, laidKinds := [.data, .listed, .data, .pinned], laidTests := true, laidLooks := .later }
def FreshGoesCardSaid : Prop := Claim7.holds Tryz.pinned (.plain (OpenSpec.ofChange freshGoesSpec)) freshGoesCard

/-- THE TIED CARD OF 'inlaylaw13.FreshLife'. -/
def freshLifeCard : Claim7 := { stood := { row := freshLifeRow, standIns := [], harness := (true, "eed07d5b6c6936896de5364ee233b543a757a626de3d0c1d6d9be9df26f75644"), looks := false }, kinds := [], alts := [], laidByText := true, laidKinds := [.data, .listed, .data, .pinned], laidTests := true, laidLooks := .later }
def FreshLifeCardSaid : Prop := Claim7.holds Tryz.pinned (.plain (OpenSpec.ofChange freshLifeSpec)) freshLifeCard

/-- THE TIED CARD OF 'inlaylaw13.FreshKnown'. -/
def freshKnownCard : Claim7 := { stood := { row := freshKnownRow, standIns := [], harness := (true, "eed07d5b6c6936896de5364ee233b543a757a626de3d0c1d6d9be9df26f75644"), looks := false }, kinds := [], alts := [], laidByText := true, laidKinds := [.data, .listed, .data, .pinned], laidTests := true, laidLooks := .later }
def FreshKnownCardSaid : Prop := Claim7.holds Tryz.pinned (.plain (OpenSpec.ofChange freshKnownSpec)) freshKnownCard

/-- THE TIED CARD OF 'inlaylaw16.StorableMay'. -/
def storableMayCard : Claim7 := { stood := { row := storableMayRow, standIns := [], harness := (true, "eed07d5b6c6936896de5364ee233b543a757a626de3d0c1d6d9be9df26f75644"), looks := false }, kinds := [], alts := [], laidByText := true, laidKinds := [.data, .listed, .data, .pinned], laidTests := true, laidLooks := .later }
def StorableMayCardSaid : Prop := Claim7.holds Tryz.pinned (.plain (OpenSpec.ofChange storableMaySpec)) storableMayCard

/-- THE TIED CARD OF 'inlaylaw16.StorableOnly'. -/
def storableOnlyCard : Claim7 := { stood := { row := storableOnlyRow, standIns := [], harness := (true, "eed07d5b6c6936896de5364ee233b543a757a626de3d0c1d6d9be9df26f75644"), looks := false }, kinds := [], alts := [], laidByText := true, laidKinds := [.data, .listed, .data, .pinned], laidTests := true, laidLooks := .later }
def StorableOnlyCardSaid : Prop := Claim7.holds Tryz.pinned (.plain (OpenSpec.ofChange storableOnlySpec)) storableOnlyCard

/-- THE TIED CARD OF 'inlaylaw16.StorableKnown'. -/
def storableKnownCard : Claim7 := { stood := { row := storableKnownRow, standIns := [], harness := (true, "eed07d5b6c6936896de5364ee233b543a757a626de3d0c1d6d9be9df26f75644"), looks := false }, kinds := [], alts := [], laidByText := true, laidKinds := [.data, .listed, .data, .pinned], laidTests := true, laidLooks := .later }
def StorableKnownCardSaid : Prop := Claim7.holds Tryz.pinned (.plain (OpenSpec.ofChange storableKnownSpec)) storableKnownCard

/-- THE TIED CARD OF 'inlaylaw13.FreshAhead'. -/
def freshAheadCard : Claim7 := { stood := { row := freshAheadRow, standIns := [], harness := (true, "eed07d5b6c6936896de5364ee233b543a757a626de3d0c1d6d9be9df26f75644"), looks := false }, kinds := [], alts := [], laidByText := true, laidKinds := [.data, .data, .data, .data, .listed, .data, .pinned], laidTests := true, laidLooks := .later }
def FreshAheadCardSaid : Prop := Claim7.holds Tryz.pinned (.plain (OpenSpec.ofChange freshAheadSpec)) freshAheadCard

/-- THE SECOND FORM's CARD OF 'inlaylaw20.RefreshMakes'. -/
def refreshMakesUptoCard : Claim7 := { stood := { row := refreshMakesUptoRow, standIns := [], harness := (true, "eed07d5b6c6936896de5364ee233b543a757a626de3d0c1d6d9be9df26f75644"), looks := false }, kinds := [], alts := [], laidByText := true, laidKinds := [.data, .listed, .data, .pinned], laidTests := true, laidLooks := .later }
def RefreshMakesUptoCardSaid : Prop := Claim7.holds Tryz.pinned (.plain (OpenSpec.upto refreshMakesSpec)) refreshMakesUptoCard

/-- THE SECOND FORM's CARD OF 'inlaylaw13.FreshAge'. -/
def freshAgeUptoCard : Claim7 := { stood := { row := freshAgeUptoRow, standIns := [], harness := (true, "eed07d5b6c6936896de5364ee233b543a757a626de3d0c1d6d9be9df26f75644"), looks := false }, kinds := [], alts := [], laidByText := true, laidKinds := [.data, .listed, .data, .pinned], laidTests := true, laidLooks := .later }
def FreshAgeUptoCardSaid : Prop := Claim7.holds Tryz.pinned (.plain (OpenSpec.upto freshAgeSpec)) freshAgeUptoCard

/-- THE SECOND FORM's CARD OF 'inlaylaw13.FreshGoes'. -/
def freshGoesUptoCard : Claim7 := { stood := { row := freshGoesUptoRow, standIns := [], harness := (true, "eed07d5b6c6936896de5364ee233b543a757a626de3d0c1d6d9be9df26f75644"), looks := false }, kinds := [], alts := [], laidByText := true, laidKinds := [.data, .listed, .data, .pinned], laidTests := true, laidLooks := .later }
def FreshGoesUptoCardSaid : Prop := Claim7.holds Tryz.pinned (.plain (OpenSpec.upto freshGoesSpec)) freshGoesUptoCard

/-- THE SECOND FORM's CARD OF 'inlaylaw13.FreshLife'. -/
def freshLifeUptoCard : Claim7 := { stood := { row := freshLifeUptoRow, standIns := [], harness := (true, "eed07d5b6c6936896de5364ee233b543a757a626de3d0c1d6d9be9df26f75644"), looks := false }, kinds := [], alts := [], laidByText := true, laidKinds := [.data, .listed, .data, .pinned], laidTests := true, laidLooks := .later }
def FreshLifeUptoCardSaid : Prop := Claim7.holds Tryz.pinned (.plain (OpenSpec.upto freshLifeSpec)) freshLifeUptoCard

/-- THE SECOND FORM's CARD OF 'inlaylaw13.FreshKnown'. -/
def freshKnownUptoCard : Claim7 := { stood := { row := freshKnownUptoRow, standIns := [], harness := (true, "eed07d5b6c6936896de5364ee233b543a757a626de3d0c1d6d9be9df26f75644"), looks := false }, kinds := [], alts := [], laidByText := true, laidKinds := [.data, .listed, .data, .pinned], laidTests := true, laidLooks := .later }
def FreshKnownUptoCardSaid : Prop := Claim7.holds Tryz.pinned (.plain (OpenSpec.upto freshKnownSpec)) freshKnownUptoCard

/-- THE SECOND FORM's CARD OF 'inlaylaw16.StorableMay'. -/
def storableMayUptoCard : Claim7 := { stood := { row := storableMayUptoRow, standIns := [], harness := (true, "eed07d5b6c6936896de5364ee233b543a757a626de3d0c1d6d9be9df26f75644"), looks := false }, kinds := [], alts := [], laidByText := true, laidKinds := [.data, .listed, .data, .pinned], laidTests := true, laidLooks := .later }
def StorableMayUptoCardSaid : Prop := Claim7.holds Tryz.pinned (.plain (OpenSpec.upto storableMaySpec)) storableMayUptoCard

/-- THE SECOND FORM's CARD OF 'inlaylaw16.StorableOnly'. -/
def storableOnlyUptoCard : Claim7 := { stood := { row := storableOnlyUptoRow, standIns := [], harness := (true, "eed07d5b6c6936896de5364ee233b543a757a626de3d0c1d6d9be9df26f75644"), looks := false }, kinds := [], alts := [], laidByText := true, laidKinds := [.data, .listed, .data, .pinned], laidTests := true, laidLooks := .later }
def StorableOnlyUptoCardSaid : Prop := Claim7.holds Tryz.pinned (.plain (OpenSpec.upto storableOnlySpec)) storableOnlyUptoCard

/-- THE SECOND FORM's CARD OF 'inlaylaw16.StorableKnown'. -/
def storableKnownUptoCard : Claim7 := { stood := { row := storableKnownUptoRow, standIns := [], harness := (true, "eed07d5b6c6936896de5364ee233b543a757a626de3d0c1d6d9be9df26f75644"), looks := false }, kinds := [], alts := [], laidByText := true, laidKinds := [.data, .listed, .data, .pinned], laidTests := true, laidLooks := .later }
def StorableKnownUptoCardSaid : Prop := Claim7.holds Tryz.pinned (.plain (OpenSpec.upto storableKnownSpec)) storableKnownUptoCard

/-- THE SECOND FORM's CARD OF 'inlaylaw13.FreshAhead'. -/
def freshAheadUptoCard : Claim7 := { stood := { row := freshAheadUptoRow, standIns := [], harness := (true, "eed07d5b6c6936896de5364ee233b543a757a626de3d0c1d6d9be9df26f75644"), looks := false }, kinds := [], alts := [], laidByText := true, laidKinds := [.data, .data, .data, .data, .listed, .data, .pinned], laidTests := true, laidLooks := .later }
def FreshAheadUptoCardSaid : Prop := Claim7.holds Tryz.pinned (.plain (OpenSpec.upto freshAheadSpec)) freshAheadUptoCard
end Rows
end Go.Proofs.YtgmmjhcklhajiaaGreatDoor
