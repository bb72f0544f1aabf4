/-
  DERIVED. GIVEN WITH THE SEED: THE CARDS: each row of YthcjgdmmpopplaaGreatDoorRows.lean that lists a variable, with what it lists TIED to the program's text (the seventh form; the later family's looks); each row that meets fmt, with fmt's text TOLD by the authors' own Lean function (tested against real Go, not proved from fmt's source: count such statements apart). THE CARD IS WHAT COUNTS. Prove the row's statement (the work); the ties are given (YthcjgdmmpopplaaGreatDoorTie.lean); close each card by the builder's one call (the guide's Derived/Test/ToyasCard.lean, 'card_holds'). Laid BY PROGRAM, IN A SANDBOX (cutbox-door.mjs). By AI agents, Wed Nov 11 2026. No macro, syntax, notation, axiom, sorry.
-/
import Derived.Test.YthcjgdmmpopplaaGreatDoorRows
import GoSem.ClaimSeven
namespace Go.Proofs.YthcjgdmmpopplaaGreatDoor
namespace Rows

/-- THE TIED CARD OF 'tuckmilllaw07.ValidPrograms'. -/
def validProgramsCard : Claim7 := { stood := { row := validProgramsRow, standIns := [], harness := (true, "1fa63e946ca6f3e88bb62c2486a7752c01e0bcd571fb0e18084b545cd17fab11"), looks := false }, kinds := [], alts := [], laidByText := true, laidKinds := [.data, .listed, .data, .pinned], laidTests := true, laidLooks := .later }
def ValidProgramsCardSaid : Prop := Claim7.holds Tryz.pinned (.plain (OpenSpec.ofChange validProgramsSpec)) validProgramsCard

/-- THE TIED CARD OF 'tuckmilllaw07.ValidModules'. -/
def validModulesCard : Claim7 := { stood := { row := validModulesRow, standIns := [], harness := (true, "1fa63e946ca6f3e88bb62c2486a7752c01e0bcd571fb0e18084b545cd17fab11"), looks := false }, kinds := [], alts := [], laidByText := true, laidKinds := [.data, .listed, .data, .pinned], laidTests := true, laidLooks := .later }
def ValidModulesCardSaid : Prop := Claim7.holds Tryz.pinned (.plain (OpenSpec.ofChange validModulesSpec)) validModulesCard

/-- THE TIED CARD OF 'tuckmilllaw07.ValidNests'. -/
def validNestsCard : Claim7 := { stood := { row := validNestsRow, standIns := [], harness := (true, "1fa63e946ca6f3e88bb62c2486a7752c01e0bcd571fb0e18084b545cd17fab11"), looks := false }, kinds := [], alts := [], laidByText := true, laidKinds := [.data, .listed, .data, .pinned], laidTests := true, laidLooks := .later }
def ValidNestsCardSaid : Prop := Claim7.holds Tryz.pinned (.plain (OpenSpec.ofChange validNestsSpec)) validNestsCard

/-- THE TIED CARD OF 'tuckmilllaw07.ValidAligns'. -/
def validAlignsCard : Claim7 := { stood := { row := validAlignsRow, standIns := [], harness := (true, "1fa63e946ca6f3e88bb62c2486a7752c01e0bcd571fb0e18084b545cd17fab11"), looks := false }, kinds := [], alts := [], laidByText := true, laidKinds := [.data, .listed, .data, .pinned], laidTests := true, laidLooks := .later }
def ValidAlignsCardSaid : Prop := Claim7.holds Tryz.pinned (.plain (OpenSpec.ofChange validAlignsSpec)) validAlignsCard

/-- THE TIED CARD OF 'tuckmilllaw07.ValidLabels'. -/
def validLabelsCard : Claim7 := { stood := { row := validLabelsRow, standIns := [], harness := (true, "1fa63e946ca6f3e88bb62c2486a7752c01e0bcd571fb0e18084b545cd17fab11"), looks := false }, kinds := [], alts := [], laidByText := true, laidKinds := [.data, .listed, .data, .pinned], laidTests := true, laidLooks := .later }
def ValidLabelsCardSaid : Prop := Claim7.holds Tryz.pinned (.plain (OpenSpec.ofChange validLabelsSpec)) validLabelsCard

/-- THE TIED CARD OF 'tuckmilllaw07.ValidCalls'. -/
def validCallsCard : Claim7 := { stood := { row := validCallsRow, standIns := [], harness := (true, "1fa63e946ca6f3e88bb62c2486a7752c01e0bcd571fb0e18084b545cd17fab11"), looks := false }, kinds := [], alts := [], laidByText := true, laidKinds := [.data, .listed, .data, .pinned], laidTests := true, laidLooks := .later }
def ValidCallsCardSaid : Prop := Claim7.holds Tryz.pinned (.plain (OpenSpec.ofChange validCallsSpec)) validCallsCard

/-- THE SECOND FORM's CARD OF 'tuckmilllaw07.ValidPrograms'. -/
def validProgramsUptoCard : Claim7 := { stood := { row := validProgramsUptoRow, standIns := [], harness := (true, "1fa63e946ca6f3e88bb62c2486a7752c01e0bcd571fb0e18084b545cd17fab11"), looks := false }, kinds := [], alts := [], laidByText := true, laidKinds := [.data, .listed, .data, .pinned], laidTests := true, laidLooks := .later }
def ValidProgramsUptoCardSaid : Prop := Claim7.holds Tryz.pinned (.plain (OpenSpec.upto validProgramsSpec)) validProgramsUptoCard

/-- THE SECOND FORM's CARD OF 'tuckmilllaw07.ValidModules'. -/
def validModulesUptoCard : Claim7 := { stood := { row := validModulesUptoRow, standIns := [], harness := (true, "1fa63e946ca6f3e88bb62c2486a7752c01e0bcd571fb0e18084b545cd17fab11"), looks := false }, kinds := [], alts := [], laidByText := true, laidKinds := [.data, .listed, .data, .pinned], laidTests := true, laidLooks := .later }
def ValidModulesUptoCardSaid : Prop := Claim7.holds Tryz.pinned (.plain (OpenSpec.upto validModulesSpec)) validModulesUptoCard

/-- THE SECOND FORM's CARD OF 'tuckmilllaw07.ValidNests'. -/
def validNestsUptoCard : Claim7 := { stood := { row := validNestsUptoRow, standIns := [], harness := (true, "1fa63e946ca6f3e88bb62c2486a7752c01e0bcd571fb0e18084b545cd17fab11"), looks := false }, kinds := [], alts := [], laidByText := true, laidKinds := [.data, .listed, .data, .pinned], laidTests := true, laidLooks := .later }
def ValidNestsUptoCardSaid : Prop := Claim7.holds Tryz.pinned (.plain (OpenSpec.upto validNestsSpec)) validNestsUptoCard

/-- THE SECOND FORM's CARD OF 'tuckmilllaw07.ValidAligns'. -/
def validAlignsUptoCard : Claim7 := { stood := { row := validAlignsUptoRow, standIns := [], harness := (true, "1fa63e946ca6f3e88bb62c2486a7752c01e0bcd571fb0e18084b545cd17fab11"), looks := false }, kinds := [], alts := [], laidByText := true, laidKinds := [.data, .listed, .data, .pinned], laidTests := true, laidLooks := .later }
def ValidAlignsUptoCardSaid : Prop := Claim7.holds Tryz.pinned (.plain (OpenSpec.upto validAlignsSpec)) validAlignsUptoCard

/-- THE SECOND FORM's CARD OF 'tuckmilllaw07.ValidLabels'. -/
def validLabelsUptoCard : Claim7 := { stood := { row := validLabelsUptoRow, standIns := [], harness := (true, "1fa63e946ca6f3e88bb62c2486a7752c01e0bcd571fb0e18084b545cd17fab11"), looks := false }, kinds := [], alts := [], laidByText := true, laidKinds := [.data, .listed, .data, .pinned], laidTests := true, laidLooks := .later }
def ValidLabelsUptoCardSaid : Prop := Claim7.holds Tryz.pinned (.plain (OpenSpec.upto validLabelsSpec)) validLabelsUptoCard

/-- THE SECOND FORM's CARD OF 'tuckmilllaw07.ValidCalls'. -/
def validCallsUptoCard : Claim7 := { stood := { row := validCallsUptoRow, standIns := [], harness := (true, "1fa63e946ca6f3e88bb62c2486a7752c01e0bcd571fb0e18084b545cd17fab11"), looks := false }, kinds := [], alts := [], laidByText := true, laidKinds := [.data, .listed, .data, .pinned], laidTests := true, laidLooks := .later }
def ValidCallsUptoCardSaid : Prop := Claim7.holds Tryz.pinned (.plain (OpenSpec.upto validCallsSpec)) validCallsUptoCard
end Rows
end Go.Proofs.YthcjgdmmpopplaaGreatDoor
