/-
  DERIVED. GIVEN WITH THE SEED: THE CARDS: each row of YtkemaonhchklmaaGreatDoorRows.lean that lists a variable, with what it lists TIED to the program's text (the seventh form; the later family's looks); each row that meets fmt, with fmt's text TOLD by the authors' own Lean function (tested against real Go, not proved from fmt's source: count such statements apart). THE CARD IS WHAT COUNTS. Prove the row's statement (the work); the ties are given (YtkemaonhchklmaaGreatDoorTie.lean); close each card by the builder's one call (the guide's Derived/Test/ToyasCard.lean, 'card_holds'). Laid BY PROGRAM, IN A SANDBOX (cutbox-door.mjs). By AI agents, Wed Nov 11 2026. No macro, syntax, notation, axiom, sorry.
-/
import Derived.Test.YtkemaonhchklmaaGreatDoorRows
import GoSem.ClaimSeven
namespace Go.Proofs.YtkemaonhchklmaaGreatDoor
namespace Rows

/-- THE TIED CARD OF 'tuckmilllaw04.ModuleRights'. -/
def moduleRightsCard : Claim7 := { stood := { row := moduleRightsRow, standIns := [], harness := (true, "3779ba8686cdb37eebddfbc9da8f82cdbc8b36c1be77232e09853fcbb4509696"), looks := false }, kinds := [], alts := [], laidByText := true, laidKinds := [.data, .data, .data, .data, .listed, .data, .pinned], laidTests := true, laidLooks := .later }
def ModuleRightsCardSaid : Prop := Claim7.holds Tryz.pinned (.plain (OpenSpec.ofChange moduleRightsSpec)) moduleRightsCard

/-- THE TIED CARD OF 'tuckmilllaw04.ModuleTexts'. -/
def moduleTextsCard : Claim7 := { stood := { row := moduleTextsRow, standIns := [], harness := (true, "3779ba8686cdb37eebddfbc9da8f82cdbc8b36c1be77232e09853fcbb4509696"), looks := false }, kinds := [], alts := [], laidByText := true, laidKinds := [.data, .data, .data, .data, .listed, .data, .pinned], laidTests := true, laidLooks := .later }
def ModuleTextsCardSaid : Prop := Claim7.holds Tryz.pinned (.plain (OpenSpec.ofChange moduleTextsSpec)) moduleTextsCard

/-- THE SECOND FORM's CARD OF 'tuckmilllaw04.ModuleRights'. -/
def moduleRightsUptoCard : Claim7 := { stood := { row := moduleRightsUptoRow, standIns := [], harness := (true, "3779ba8686cdb37eebddfbc9da8f82cdbc8b36c1be77232e09853fcbb4509696"), looks := false }, kinds := [], alts := [], laidByText := true, laidKinds := [.data, .data, .data, .data, .listed, .data, .pinned], laidTests := true, laidLooks := .later }
def ModuleRightsUptoCardSaid : Prop := Claim7.holds Tryz.pinned (.plain (OpenSpec.upto moduleRightsSpec)) moduleRightsUptoCard

/-- THE SECOND FORM's CARD OF 'tuckmilllaw04.ModuleTexts'. -/
def moduleTextsUptoCard : Claim7 := { stood := { row := moduleTextsUptoRow, standIns := [], harness := (true, "3779ba8686cdb37eebddfbc9da8f82cdbc8b36c1be77232e09853fcbb4509696"), looks := false }, kinds := [], alts := [], laidByText := true, laidKinds := [.data, .data, .data, .data, .listed, .data, .pinned], laidTests := true, laidLooks := .later }
def ModuleTextsUptoCardSaid : Prop := Claim7.holds Tryz.pinned (.plain (OpenSpec.upto moduleTextsSpec)) moduleTextsUptoCard
end Rows
end Go.Proofs.YtkemaonhchklmaaGreatDoor
