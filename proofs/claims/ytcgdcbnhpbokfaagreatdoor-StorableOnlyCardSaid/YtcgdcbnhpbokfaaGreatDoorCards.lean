/-
  DERIVED. GIVEN WITH THE SEED: THE CARDS: each row of YtcgdcbnhpbokfaaGreatDoorRows.lean that lists a variable, with what it lists TIED to the program's text (the seventh form; the later family's looks); each row that meets fmt, with fmt's text TOLD by the authors' own Lean function (tested against real Go, not proved from fmt's source: count such statements apart). THE CARD IS WHAT COUNTS. Prove the row's statement (the work); the ties are given (YtcgdcbnhpbokfaaGreatDoorTie.lean); close each card by the builder's one call (the guide's Derived/Test/ToyasCard.lean, 'card_holds'). Laid BY PROGRAM, IN A SANDBOX (cutbox-door.mjs). By AI agents, Wed Nov 11 2026. No macro, syntax, notation, axiom, sorry.
-/
import Derived.Test.YtcgdcbnhpbokfaaGreatDoorRows
import GoSem.ClaimSeven
namespace Go.Proofs.YtcgdcbnhpbokfaaGreatDoor
namespace Rows

/-- THE TIED CARD OF 'inlaylaw14.EtagAsks'. -/
def etagAsksCard : Claim7 := { stood := { row := etagAsksRow, standIns := [], harness := (true, "922186e1ee7978154ce67044ce1469237fd1bec6b5a09d0e10024b9af1610c00"), looks := false }, kinds := [], alts := [], laidByText := true, laidKinds := [.data, .listed, .data, .pinned], laidTests := true, laidLooks := .later }
def EtagAsksCardSaid : Prop := Claim7.holds Tryz.pinned (.plain (OpenSpec.ofChange etagAsksSpec)) etagAsksCard

/-- THE TIED CARD OF 'inlaylaw13.FreshAge'. -/
def freshAgeCard : Claim7 := { stood := { row := freshAgeRow, standIns := [], harness := (true, "922186e1ee7978154ce67044ce1469237fd1bec6b5a09d0e10024b9af1610c00"), looks := false }, kinds := [], alts := [], laidByText := true, laidKinds := [.data, .listed, .data, .pinned], laidTests := true, laidLooks := .later }
def FreshAgeCardSaid : Prop := Claim7.holds Tryz.pinned (.plain (OpenSpec.ofChange freshAgeSpec)) freshAgeCard

/-- THE TIED CARD OF 'inlaylaw13.FreshLife'. -/
def freshLifeCard : Claim7 := { stood := { row := freshLifeRow, standIns := [], harness := (true, "922186e1ee7978154ce67044ce1469237fd1bec6b5a09d0e10024b9af1610c00"), looks := false }, kinds := [], alts := [], laidByText := true, laidKinds := [.data, .listed, .data, .pinned], laidTests := true, laidLooks := .later }
def FreshLifeCardSaid : Prop := Claim7.holds Tryz.pinned (.plain (OpenSpec.ofChange freshLifeSpec)) freshLifeCard

/-- THE TIED CARD OF 'inlaylaw16.StorableMay'. -/
def storableMayCard : Claim7 := { stood := { row := storableMayRow, standIns := [], harness := (true, "922186e1ee7978154ce67044ce1469237fd1bec6b5a09d0e10024b9af1610c00"), looks := false }, kinds := [], alts := [], laidByText := true, laidKinds := [.data, .listed, .data, .pinned], laidTests := true, laidLooks := .later }
def StorableMayCardSaid : Prop := Claim7.holds Tryz.pinned (.plain (OpenSpec.ofChange storableMaySpec)) storableMayCard

/-- THE TIED CARD OF 'inlaylaw16.StorableOnly'. -/
def storableOnlyCard : Claim7 := { stood := { row := storableOnlyRow, standIns := [], harness := (true, "922186e1ee7978154ce67044ce1469237fd1bec6b5a09d0e10024b9af1610c00"), looks := false }, kinds := [], alts := [], laidByText := true, laidKinds := [.data, .listed, .data, .pinned], laidTests := true, laidLooks := .later }
def StorableOnlyCardSaid : Prop := Claim7.holds Tryz.pinned (.plain (OpenSpec.ofChange storableOnlySpec)) storableOnlyCard

/-- THE TIED CARD OF 'inlaylaw16.StorableKnown'. -/
def storableKnownCard : Claim7 := { stood := { row := storableKnownRow, standIns := [], harness := (true, "922186e1ee7978154ce67044ce1469237fd1bec6b5a09d0e10024b9af1610c00"), looks := false }, kinds := [], alts := [], laidByText := true, laidKinds := [.data, .listed, .data, .pinned], laidTests := true, laidLooks := .later }
def StorableKnownCardSaid : Prop := Claim7.holds Tryz.pinned (.plain (OpenSpec.ofChange storableKnownSpec)) storableKnownCard

/-- THE SECOND FORM's CARD OF 'inlaylaw14.EtagAsks'. -/
def etagAsksUptoCard : Claim7 := { stood := { row := etagAsksUptoRow, standIns := [], harness := (true, "922186e1ee7978154ce67044ce1469237fd1bec6b5a09d0e10024b9af1610c00"), looks := false }, kinds := [], alts := [], laidByText := true, laidKinds := [.data, .listed, .data, .pinned], laidTests := true, laidLooks := .later }
def EtagAsksUptoCardSaid : Prop := Claim7.holds Tryz.pinned (.plain (OpenSpec.upto etagAsksSpec)) etagAsksUptoCard

/-- THE SECOND FORM's CARD OF 'inlaylaw13.FreshAge'. -/
def freshAgeUptoCard : Claim7 := { stood := { row := freshAgeUptoRow, standIns := [], harness := (true, "922186e1ee7978154ce67044ce1469237fd1bec6b5a09d0e10024b9af1610c00"), looks := false }, kinds := [], alts := [], laidByText := true, laidKinds := [.data, .listed, .data, .pinned], laidTests := true, laidLooks := .later }
def FreshAgeUptoCardSaid : Prop := Claim7.holds Tryz.pinned (.plain (OpenSpec.upto freshAgeSpec)) freshAgeUptoCard

/-- THE SECOND FORM's CARD OF 'inlaylaw13.FreshLife'. -/
def freshLifeUptoCard : Claim7 := { stood := { row := freshLifeUptoRow, standIns := [], harness := (true, "922186e1ee7978154ce67044ce1469237fd1bec6b5a09d0e10024b9af1610c00"), looks := false }, kinds := [], alts := [], laidByText := true, laidKinds := [.data, .listed, .data, .pinned], laidTests := true, laidLooks := .later }
def FreshLifeUptoCardSaid : Prop := Claim7.holds Tryz.pinned (.plain (OpenSpec.upto freshLifeSpec)) freshLifeUptoCard

/-- THE SECOND FORM's CARD OF 'inlaylaw16.StorableMay'. -/
def storableMayUptoCard : Claim7 := { stood := { row := storableMayUptoRow, standIns := [], harness := (true, "922186e1ee7978154ce67044ce1469237fd1bec6b5a09d0e10024b9af1610c00"), looks := false }, kinds := [], alts := [], laidByText := true, laidKinds := [.data, .listed, .data, .pinned], laidTests := true, laidLooks := .later }
def StorableMayUptoCardSaid : Prop := Claim7.holds Tryz.pinned (.plain (OpenSpec.upto storableMaySpec)) storableMayUptoCard

/-- THE SECOND FORM's CARD OF 'inlaylaw16.StorableOnly'. -/
def storableOnlyUptoCard : Claim7 := { stood := { row := storableOnlyUptoRow, standIns := [], harness := (true, "922186e1ee7978154ce67044ce1469237fd1bec6b5a09d0e10024b9af1610c00"), looks := false }, kinds := [], alts := [], laidByText := true, laidKinds := [.data, .listed, .data, .pinned], laidTests := true, laidLooks := .later }
def StorableOnlyUptoCardSaid : Prop := Claim7.holds Tryz.pinned (.plain (OpenSpec.upto storableOnlySpec)) storableOnlyUptoCard

/-- THE SECOND FORM's CARD OF 'inlaylaw16.StorableKnown'. -/
def storableKnownUptoCard : Claim7 := { stood := { row := storableKnownUptoRow, standIns := [], harness := (true, "922186e1ee7978154ce67044ce1469237fd1bec6b5a09d0e10024b9af1610c00"), looks := false }, kinds := [], alts := [], laidByText := true, laidKinds := [.data, .listed, .data, .pinned], laidTests := true, laidLooks := .later }
def StorableKnownUptoCardSaid : Prop := Claim7.holds Tryz.pinned (.plain (OpenSpec.upto storableKnownSpec)) storableKnownUptoCard
end Rows
end Go.Proofs.YtcgdcbnhpbokfaaGreatDoor
