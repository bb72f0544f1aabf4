/-
  DERIVED. GIVEN WITH THE SEED: THE CARDS: each row of YtmbgemcddjailaaGreatDoorRows.lean that lists a variable, with what it lists TIED to the program's text (the seventh form; the later family's looks); each row that meets fmt, with fmt's text TOLD by the authors' own Lean function (tested against real Go, not proved from fmt's source: count such statements apart). THE CARD IS WHAT COUNTS. Prove the row's statement (the work); the ties are given (YtmbgemcddjailaaGreatDoorTie.lean); close each card by the builder's one call (the guide's Derived/Test/ToyasCard.lean, 'card_holds'). Laid BY PROGRAM, IN A SANDBOX (cutbox-door.mjs). By AI agents, Wed Nov 11 2026. No macro, syntax, notation, axiom, sorry.
-/
import Derived.Test.YtmbgemcddjailaaGreatDoorRows
import GoSem.ClaimSeven
namespace Go.Proofs.YtmbgemcddjailaaGreatDoor
namespace Rows

/-- THE TIED CARD OF 'tuckmilllaw09.RunGlobals'. -/
def runGlobalsCard : Claim7 := { stood := { row := runGlobalsRow, standIns := [], harness := (true, "fec273f5bd2e01205c8b0d063d1da365c488610b6d1c4e05d990c91cc34708c3"), looks := false }, kinds := [], alts := [], laidByText := true, laidKinds := [.data, .data, .data, .listed, .data, .pinned], laidTests := true, laidLooks := .later }
def RunGlobalsCardSaid : Prop := Claim7.holds Tryz.pinned (.plain (OpenSpec.ofChange runGlobalsSpec)) runGlobalsCard

/-- THE TIED CARD OF 'tuckmilllaw09.RunData'. -/
def runDataCard : Claim7 := { stood := { row := runDataRow, standIns := [], harness := (true, "fec273f5bd2e01205c8b0d063d1da365c488610b6d1c4e05d990c91cc34708c3"), looks := false }, kinds := [], alts := [], laidByText := true, laidKinds := [.data, .data, .data, .listed, .data, .pinned], laidTests := true, laidLooks := .later }
def RunDataCardSaid : Prop := Claim7.holds Tryz.pinned (.plain (OpenSpec.ofChange runDataSpec)) runDataCard

/-- THE SECOND FORM's CARD OF 'tuckmilllaw09.RunGlobals'. -/
def runGlobalsUptoCard : Claim7 := { stood := { row := runGlobalsUptoRow, standIns := [], harness := (true, "fec273f5bd2e01205c8b0d063d1da365c488610b6d1c4e05d990c91cc34708c3"), looks := false }, kinds := [], alts := [], laidByText := true, laidKinds := [.data, .data, .data, .listed, .data, .pinned], laidTests := true, laidLooks := .later }
def RunGlobalsUptoCardSaid : Prop := Claim7.holds Tryz.pinned (.plain (OpenSpec.upto runGlobalsSpec)) runGlobalsUptoCard

/-- THE SECOND FORM's CARD OF 'tuckmilllaw09.RunData'. -/
def runDataUptoCard : Claim7 := { stood := { row := runDataUptoRow, standIns := [], harness := (true, "fec273f5bd2e01205c8b0d063d1da365c488610b6d1c4e05d990c91cc34708c3"), looks := false }, kinds := [], alts := [], laidByText := true, laidKinds := [.data, .data, .data, .listed, .data, .pinned], laidTests := true, laidLooks := .later }
def RunDataUptoCardSaid : Prop := Claim7.holds Tryz.pinned (.plain (OpenSpec.upto runDataSpec)) runDataUptoCard
end Rows
end Go.Proofs.YtmbgemcddjailaaGreatDoor
