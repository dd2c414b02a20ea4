/-
  DERIVED. GIVEN WITH THE SEED: THE CARDS: each row of YtdbjnlkbhhebbaaGreatDoorRows.lean that lists a variable, with what it lists TIED to the program's text (the seventh form; the later family's looks); each row that meets fmt, with fmt's text TOLD by the authors' own Lean function (tested against real Go, not proved from fmt's source: count such statements apart). THE CARD IS WHAT COUNTS. Prove the row's statement (the work); the ties are given (YtdbjnlkbhhebbaaGreatDoorTie.lean); close each card by the builder's one call (the guide's Derived/Test/ToyasCard.lean, 'card_holds'). Laid BY PROGRAM, IN A SANDBOX (cutbox-door.mjs). By AI agents, Wed Nov 11 2026. No macro, syntax, notation, axiom, sorry.
-/
import Derived.Test.YtdbjnlkbhhebbaaGreatDoorRows
import GoSem.ClaimSeven
namespace Go.Proofs.YtdbjnlkbhhebbaaGreatDoor
namespace Rows

/-- THE TIED CARD OF 'inlaytop.TopCache'. -/
def topCacheCard : Claim7 := { stood := { row := topCacheRow, standIns := [], harness := (true, "d9f5e4f7ebb9fa4055eb71a50092acffd26afc64aa9051f406cbe716bc35c000"), looks := true }, kinds := [], alts := [], laidByText := true, laidKinds := [.sentinel, .sentinel, .data, .data, .data, .pinned, .data, .pinned, .data, .listed], laidTests := true, laidLooks := .later }
def TopCacheCardSaid : Prop := Claim7.holds Tryz.pinned (.plain (OpenSpec.ofChange topCacheSpec)) topCacheCard

/-- THE TIED CARD OF 'inlaytop.TopPlain'. -/
def topPlainCard : Claim7 := { stood := { row := topPlainRow, standIns := [], harness := (true, "d9f5e4f7ebb9fa4055eb71a50092acffd26afc64aa9051f406cbe716bc35c000"), looks := true }, kinds := [], alts := [], laidByText := true, laidKinds := [.data, .data, .data, .pinned, .data, .sentinel, .sentinel, .pinned, .data, .listed], laidTests := true, laidLooks := .later }
def TopPlainCardSaid : Prop := Claim7.holds Tryz.pinned (.plain (OpenSpec.ofChange topPlainSpec)) topPlainCard

/-- THE SECOND FORM's CARD OF 'inlaytop.TopCache'. -/
def topCacheUptoCard : Claim7 := { stood := { row := topCacheUptoRow, standIns := [], harness := (true, "d9f5e4f7ebb9fa4055eb71a50092acffd26afc64aa9051f406cbe716bc35c000"), looks := true }, kinds := [], alts := [], laidByText := true, laidKinds := [.sentinel, .sentinel, .data, .data, .data, .pinned, .data, .pinned, .data, .listed], laidTests := true, laidLooks := .later }
def TopCacheUptoCardSaid : Prop := Claim7.holds Tryz.pinned (.plain (OpenSpec.upto topCacheSpec)) topCacheUptoCard

/-- THE SECOND FORM's CARD OF 'inlaytop.TopPlain'. -/
def topPlainUptoCard : Claim7 := { stood := { row := topPlainUptoRow, standIns := [], harness := (true, "d9f5e4f7ebb9fa4055eb71a50092acffd26afc64aa9051f406cbe716bc35c000"), looks := true }, kinds := [], alts := [], laidByText := true, laidKinds := [.data, .data, .data, .pinned, .data, .sentinel, .sentinel, .pinned, .data, .listed], laidTests := true, laidLooks := .later }
def TopPlainUptoCardSaid : Prop := Claim7.holds Tryz.pinned (.plain (OpenSpec.upto topPlainSpec)) topPlainUptoCard
end Rows
end Go.Proofs.YtdbjnlkbhhebbaaGreatDoor
