/-
  DERIVED. GIVEN WITH THE SEED: THE CARDS: each row of YthkdegmnnbepdaaGreatDoorRows.lean that lists a variable, with what it lists TIED to the program's text (the seventh form; the later family's looks); each row that meets fmt, with fmt's text TOLD by the authors' own Lean function (tested against real Go, not proved from fmt's source: count such statements apart). THE CARD IS WHAT COUNTS. Prove the row's statement (the work); the ties are given (YthkdegmnnbepdaaGreatDoorTie.lean); close each card by the builder's one call (the guide's Derived/Test/ToyasCard.lean, 'card_holds'). Laid BY PROGRAM, IN A SANDBOX (cutbox-door.mjs). By AI agents, Wed Nov 11 2026. No macro, syntax, notation, axiom, sorry.
-/
import Derived.Test.YthkdegmnnbepdaaGreatDoorRows
import GoSem.ClaimSeven
namespace Go.Proofs.YthkdegmnnbepdaaGreatDoor
namespace Rows

/-- THE TIED CARD OF 'tuckmilllaw04.ModuleRights'. -/
def moduleRightsCard : Claim7 := { stood := { row := moduleRightsRow, standIns := [], harness := (true, "b3170814c2f308d7a9a3291881cb826f4dd3c1cba3f14aadb7456eb42606ccce"), looks := false }, kinds := [], alts := [], laidByText := true, laidKinds := [.data, .data, .data, .data, .listed, .data, .pinned], laidTests := true, laidLooks := .later }
def ModuleRightsCardSaid : Prop := Claim7.holds Tryz.pinned (.plain (OpenSpec.ofChange moduleRightsSpec)) moduleRightsCard

/-- THE TIED CARD OF 'tuckmilllaw04.ModuleTexts'. -/
def moduleTextsCard : Claim7 := { stood := { row := moduleTextsRow, standIns := [], harness := (true, "b3170814c2f308d7a9a3291881cb826f4dd3c1cba3f14aadb7456eb42606ccce"), looks := false }, kinds := [], alts := [], laidByText := true, laidKinds := [.data, .data, .data, .data, .listed, .data, .pinned], laidTests := true, laidLooks := .later }
def ModuleTextsCardSaid : Prop := Claim7.holds Tryz.pinned (.plain (OpenSpec.ofChange moduleTextsSpec)) moduleTextsCard

/-- THE TIED CARD OF 'tuckmilllaw04.ModuleCopies'. -/
def moduleCopiesCard : Claim7 := { stood := { row := moduleCopiesRow, standIns := [], harness := (true, "b3170814c2f308d7a9a3291881cb826f4dd3c1cba3f14aadb7456eb42606ccce"), looks := false }, kinds := [], alts := [], laidByText := true, laidKinds := [.data, .data, .data, .data, .listed, .data, .pinned], laidTests := true, laidLooks := .later }
def ModuleCopiesCardSaid : Prop := Claim7.holds Tryz.pinned (.plain (OpenSpec.ofChange moduleCopiesSpec)) moduleCopiesCard

/-- THE TIED CARD OF 'tuckmilllaw04.ModuleLabels'. -/
def moduleLabelsCard : Claim7 := { stood := { row := moduleLabelsRow, standIns := [], harness := (true, "b3170814c2f308d7a9a3291881cb826f4dd3c1cba3f14aadb7456eb42606ccce"), looks := false }, kinds := [], alts := [], laidByText := true, laidKinds := [.data, .data, .data, .data, .listed, .data, .pinned], laidTests := true, laidLooks := .later }
def ModuleLabelsCardSaid : Prop := Claim7.holds Tryz.pinned (.plain (OpenSpec.ofChange moduleLabelsSpec)) moduleLabelsCard

/-- THE TIED CARD OF 'tuckmilllaw04.ModuleBlocks'. -/
def moduleBlocksCard : Claim7 := { stood := { row := moduleBlocksRow, standIns := [], harness := (true, "b3170814c2f308d7a9a3291881cb826f4dd3c1cba3f14aadb7456eb42606ccce"), looks := false }, kinds := [], alts := [], laidByText := true, laidKinds := [.data, .data, .data, .data, .listed, .data, .pinned], laidTests := true, laidLooks := .later }
def ModuleBlocksCardSaid : Prop := Claim7.holds Tryz.pinned (.plain (OpenSpec.ofChange moduleBlocksSpec)) moduleBlocksCard

/-- THE TIED CARD OF 'tuckmilllaw04.ModuleNames'. -/
def moduleNamesCard : Claim7 := { stood := { row := moduleNamesRow, standIns := [], harness := (true, "b3170814c2f308d7a9a3291881cb826f4dd3c1cba3f14aadb7456eb42606ccce"), looks := false }, kinds := [], alts := [], laidByText := true, laidKinds := [.data, .data, .data, .data, .listed, .data, .pinned], laidTests := true, laidLooks := .later }
def ModuleNamesCardSaid : Prop := Claim7.holds Tryz.pinned (.plain (OpenSpec.ofChange moduleNamesSpec)) moduleNamesCard

/-- THE TIED CARD OF 'tuckmilllaw04.ModuleLimits'. -/
def moduleLimitsCard : Claim7 := { stood := { row := moduleLimitsRow, standIns := [], harness := (true, "b3170814c2f308d7a9a3291881cb826f4dd3c1cba3f14aadb7456eb42606ccce"), looks := false }, kinds := [], alts := [], laidByText := true, laidKinds := [.data, .data, .data, .data, .listed, .data, .pinned], laidTests := true, laidLooks := .later }
def ModuleLimitsCardSaid : Prop := Claim7.holds Tryz.pinned (.plain (OpenSpec.ofChange moduleLimitsSpec)) moduleLimitsCard

/-- THE SECOND FORM's CARD OF 'tuckmilllaw04.ModuleRights'. -/
def moduleRightsUptoCard : Claim7 := { stood := { row := moduleRightsUptoRow, standIns := [], harness := (true, "b3170814c2f308d7a9a3291881cb826f4dd3c1cba3f14aadb7456eb42606ccce"), looks := false }, kinds := [], alts := [], laidByText := true, laidKinds := [.data, .data, .data, .data, .listed, .data, .pinned], laidTests := true, laidLooks := .later }
def ModuleRightsUptoCardSaid : Prop := Claim7.holds Tryz.pinned (.plain (OpenSpec.upto moduleRightsSpec)) moduleRightsUptoCard

/-- THE SECOND FORM's CARD OF 'tuckmilllaw04.ModuleTexts'. -/
def moduleTextsUptoCard : Claim7 := { stood := { row := moduleTextsUptoRow, standIns := [], harness := (true, "b3170814c2f308d7a9a3291881cb826f4dd3c1cba3f14aadb7456eb42606ccce"), looks := false }, kinds := [], alts := [], laidByText := true, laidKinds := [.data, .data, .data, .data, .listed, .data, .pinned], laidTests := true, laidLooks := .later }
def ModuleTextsUptoCardSaid : Prop := Claim7.holds Tryz.pinned (.plain (OpenSpec.upto moduleTextsSpec)) moduleTextsUptoCard

/-- THE SECOND FORM's CARD OF 'tuckmilllaw04.ModuleCopies'. -/
def moduleCopiesUptoCard : Claim7 := { stood := { row := moduleCopiesUptoRow, standIns := [], harness := (true, "b3170814c2f308d7a9a3291881cb826f4dd3c1cba3f14aadb7456eb42606ccce"), looks := false }, kinds := [], alts := [], laidByText := true, laidKinds := [.data, .data, .data, .data, .listed, .data, .pinned], laidTests := true, laidLooks := .later }
def ModuleCopiesUptoCardSaid : Prop := Claim7.holds Tryz.pinned (.plain (OpenSpec.upto moduleCopiesSpec)) moduleCopiesUptoCard

/-- THE SECOND FORM's CARD OF 'tuckmilllaw04.ModuleLabels'. -/
def moduleLabelsUptoCard : Claim7 := { stood := { row := moduleLabelsUptoRow, standIns := [], harness := (true, "b3170814c2f308d7a9a3291881cb826f4dd3c1cba3f14aadb7456eb42606ccce"), looks := false }, kinds := [], alts := [], laidByText := true, laidKinds := [.data, .data, .data, .data, .listed, .data, .pinned], laidTests := true, laidLooks := .later }
def ModuleLabelsUptoCardSaid : Prop := Claim7.holds Tryz.pinned (.plain (OpenSpec.upto moduleLabelsSpec)) moduleLabelsUptoCard

/-- THE SECOND FORM's CARD OF 'tuckmilllaw04.ModuleBlocks'. -/
def moduleBlocksUptoCard : Claim7 := { stood := { row := moduleBlocksUptoRow, standIns := [], harness := (true, "b3170814c2f308d7a9a3291881cb826f4dd3c1cba3f14aadb7456eb42606ccce"), looks := false }, kinds := [], alts := [], laidByText := true, laidKinds := [.data, .data, .data, .data, .listed, .data, .pinned], laidTests := true, laidLooks := .later }
def ModuleBlocksUptoCardSaid : Prop := Claim7.holds Tryz.pinned (.plain (OpenSpec.upto moduleBlocksSpec)) moduleBlocksUptoCard

/-- THE SECOND FORM's CARD OF 'tuckmilllaw04.ModuleNames'. -/
def moduleNamesUptoCard : Claim7 := { stood := { row := moduleNamesUptoRow, standIns := [], harness := (true, "b3170814c2f308d7a9a3291881cb826f4dd3c1cba3f14aadb7456eb42606ccce"), looks := false }, kinds := [], alts := [], laidByText := true, laidKinds := [.data, .data, .data, .data, .listed, .data, .pinned], laidTests := true, laidLooks := .later }
def ModuleNamesUptoCardSaid : Prop := Claim7.holds Tryz.pinned (.plain (OpenSpec.upto moduleNamesSpec)) moduleNamesUptoCard

/-- THE SECOND FORM's CARD OF 'tuckmilllaw04.ModuleLimits'. -/
def moduleLimitsUptoCard : Claim7 := { stood := { row := moduleLimitsUptoRow, standIns := [], harness := (true, "b3170814c2f308d7a9a3291881cb826f4dd3c1cba3f14aadb7456eb42606ccce"), looks := false }, kinds := [], alts := [], laidByText := true, laidKinds := [.data, .data, .data, .data, .listed, .data, .pinned], laidTests := true, laidLooks := .later }
def ModuleLimitsUptoCardSaid : Prop := Claim7.holds Tryz.pinned (.plain (OpenSpec.upto moduleLimitsSpec)) moduleLimitsUptoCard
end Rows
end Go.Proofs.YthkdegmnnbepdaaGreatDoor
