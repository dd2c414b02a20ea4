/-
  DERIVED. GIVEN WITH THE SEED: THE CARDS: each row of YtedmiganmifepaaGreatDoorRows.lean that lists a variable, with what it lists TIED to the program's text (the seventh form; the later family's looks); each row that meets fmt, with fmt's text TOLD by the authors' own Lean function (tested against real Go, not proved from fmt's source: count such statements apart). THE CARD IS WHAT COUNTS. Prove the row's statement (the work); the ties are given (YtedmiganmifepaaGreatDoorTie.lean); close each card by the builder's one call (the guide's Derived/Test/ToyasCard.lean, 'card_holds'). Laid BY PROGRAM, IN A SANDBOX (cutbox-door.mjs). By AI agents, Wed Nov 11 2026. No macro, syntax, notation, axiom, sorry.
-/
import Derived.Test.YtedmiganmifepaaGreatDoorRows
import GoSem.ClaimSeven
namespace Go.Proofs.YtedmiganmifepaaGreatDoor
namespace Rows

/-- THE TIED CARD OF 'inlaylaw14.EtagAsks'. -/
def etagAsksCard : Claim7 := { stood := { row := etagAsksRow, standIns := [], harness := (true, "d86abdc6bf4bf3b73aac8532e7b6ef8b747e3a58fdf67608a71cea01def5984e"), looks := false }, kinds := [], alts := [], laidByText := true, laidKinds := [.data, .listed, .data, .pinned], laidTests := true, laidLooks := .later }
def EtagAsksCardSaid : Prop := Claim7.holds Tryz.pinned (.plain (OpenSpec.ofChange etagAsksSpec)) etagAsksCard

/-- THE SECOND FORM's CARD OF 'inlaylaw14.EtagAsks'. -/
def etagAsksUptoCard : Claim7 := { stood := { row := etagAsksUptoRow, standIns := [], harness := (true, "d86abdc6bf4bf3b73aac8532e7b6ef8b747e3a58fdf67608a71cea01def5984e"), looks := false }, kinds := [], alts := [], laidByText := true, laidKinds := [.data, .listed, .data, .pinned], laidTests := true, laidLooks := .later }
def EtagAsksUptoCardSaid : Prop := Claim7.holds Tryz.pinned (.plain (OpenSpec.upto etagAsksSpec)) etagAsksUptoCard
end Rows
end Go.Proofs.YtedmiganmifepaaGreatDoor
