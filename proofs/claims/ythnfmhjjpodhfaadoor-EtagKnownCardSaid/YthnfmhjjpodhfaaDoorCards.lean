/-
  DERIVED. GIVEN WITH THE SEED: THE CARDS: each row of YthnfmhjjpodhfaaDoorRows.lean that lists a variable, with what it lists TIED to the program's text (the seventh form; the later family's looks); each row that meets fmt, with fmt's text TOLD by the authors' own Lean function (tested against real Go, not proved from fmt's source: count such statements apart). THE CARD IS WHAT COUNTS. Prove the row's statement (the work); the ties are given (YthnfmhjjpodhfaaDoorTie.lean); close each card by the builder's one call (the guide's Derived/Test/ToyasCard.lean, 'card_holds'). Laid BY PROGRAM, IN A SANDBOX (cutbox-door.mjs). By AI agents, Wed Nov 11 2026. No macro, syntax, notation, axiom, sorry.
-/
import Derived.Test.YthnfmhjjpodhfaaDoorRows
import GoSem.ClaimSeven
namespace Go.Proofs.YthnfmhjjpodhfaaDoor
namespace Rows

/-- THE TIED CARD OF 'inlaylaw14.EtagReads'. -/
def etagReadsCard : Claim7 := { stood := { row := etagReadsRow, standIns := [], harness := (true, "2b23f0d7d845ca327ff79b35f71535cc8710149235f8d32b448ebbc65cb6fa71"), looks := false }, kinds := [], alts := [], laidByText := true, laidKinds := [.data, .pinned], laidTests := true, laidLooks := .later }
def EtagReadsCardSaid : Prop := Claim7.holds Tryd.pinned (.plain (OpenSpec.ofChange etagReadsSpec)) etagReadsCard

/-- THE TIED CARD OF 'inlaylaw14.EtagKnown'. -/
def etagKnownCard : Claim7 := { stood := { row := etagKnownRow, standIns := [], harness := (true, "2b23f0d7d845ca327ff79b35f71535cc8710149235f8d32b448ebbc65cb6fa71"), looks := false }, kinds := [], alts := [], laidByText := true, laidKinds := [.data, .listed, .data, .pinned], laidTests := true, laidLooks := .later }
def EtagKnownCardSaid : Prop := Claim7.holds Tryd.pinned (.plain (OpenSpec.ofChange etagKnownSpec)) etagKnownCard

/-- THE SECOND FORM's CARD OF 'inlaylaw14.EtagReads'. -/
def etagReadsUptoCard : Claim7 := { stood := { row := etagReadsUptoRow, standIns := [], harness := (true, "2b23f0d7d845ca327ff79b35f71535cc8710149235f8d32b448ebbc65cb6fa71"), looks := false }, kinds := [], alts := [], laidByText := true, laidKinds := [.data, .pinned], laidTests := true, laidLooks := .later }
def EtagReadsUptoCardSaid : Prop := Claim7.holds Tryd.pinned (.plain (OpenSpec.upto etagReadsSpec)) etagReadsUptoCard

/-- THE SECOND FORM's CARD OF 'inlaylaw14.EtagKnown'. -/
def etagKnownUptoCard : Claim7 := { stood := { row := etagKnownUptoRow, standIns := [], harness := (true, "2b23f0d7d845ca327ff79b35f71535cc8710149235f8d32b448ebbc65cb6fa71"), looks := false }, kinds := [], alts := [], laidByText := true, laidKinds := [.data, .listed, .data, .pinned], laidTests := true, laidLooks := .later }
def EtagKnownUptoCardSaid : Prop := Claim7.holds Tryd.pinned (.plain (OpenSpec.upto etagKnownSpec)) etagKnownUptoCard
end Rows
end Go.Proofs.YthnfmhjjpodhfaaDoor
