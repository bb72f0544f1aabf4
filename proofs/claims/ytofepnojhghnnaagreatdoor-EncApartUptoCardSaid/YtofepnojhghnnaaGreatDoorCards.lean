/-
  DERIVED. GIVEN WITH THE SEED: THE CARDS: each row of YtofepnojhghnnaaGreatDoorRows.lean that lists a variable, with what it lists TIED to the program's text (the seventh form; the later family's looks); each row that meets fmt, with fmt's text TOLD by the authors' own Lean function (tested against real Go, not proved from fmt's source: count such statements apart). THE CARD IS WHAT COUNTS. Prove the row's statement (the work); the ties are given (YtofepnojhghnnaaGreatDoorTie.lean); close each card by the builder's one call (the guide's Derived/Test/ToyasCard.lean, 'card_holds'). Laid BY PROGRAM, IN A SANDBOX (cutbox-door.mjs). By AI agents, Wed Nov 11 2026. No macro, syntax, notation, axiom, sorry.
-/
import Derived.Test.YtofepnojhghnnaaGreatDoorRows
import GoSem.ClaimSeven
namespace Go.Proofs.YtofepnojhghnnaaGreatDoor
namespace Rows

/-- THE TIED CARD OF 'tuckmilllaw05.EncWrites'. -/
def encWritesCard : Claim7 := { stood := { row := encWritesRow, standIns := [], harness := (true, "2b4811ccb7f2c5a397d141e6bcb5231e875c52d2d96ff459e51106f711a627b4"), looks := false }, kinds := [], alts := [], laidByText := true, laidKinds := [.data, .listed, .data, .pinned], laidTests := true, laidLooks := .later }
def EncWritesCardSaid : Prop := Claim7.holds Tryz.pinned (.plain (OpenSpec.ofChange encWritesSpec)) encWritesCard

/-- THE TIED CARD OF 'tuckmilllaw05.EncApart'. -/
def encApartCard : Claim7 := { stood := { row := encApartRow, standIns := [], harness := (true, "2b4811ccb7f2c5a397d141e6bcb5231e875c52d2d96ff459e51106f711a627b4"), looks := false }, kinds := [], alts := [], laidByText := true, laidKinds := [.data, .listed, .data, .pinned], laidTests := true, laidLooks := .later }
def EncApartCardSaid : Prop := Claim7.holds Tryz.pinned (.plain (OpenSpec.ofChange encApartSpec)) encApartCard

/-- THE TIED CARD OF 'tuckmilllaw05.EncRuns'. -/
def encRunsCard : Claim7 := { stood := { row := encRunsRow, standIns := [], harness := (true, "2b4811ccb7f2c5a397d141e6bcb5231e875c52d2d96ff459e51106f711a627b4"), looks := false }, kinds := [], alts := [], laidByText := true, laidKinds := [.data, .listed, .data, .pinned], laidTests := true, laidLooks := .later }
def EncRunsCardSaid : Prop := Claim7.holds Tryz.pinned (.plain (OpenSpec.ofChange encRunsSpec)) encRunsCard

/-- THE TIED CARD OF 'tuckmilllaw05.EncParts'. -/
def encPartsCard : Claim7 := { stood := { row := encPartsRow, standIns := [], harness := (true, "2b4811ccb7f2c5a397d141e6bcb5231e875c52d2d96ff459e51106f711a627b4"), looks := false }, kinds := [], alts := [], laidByText := true, laidKinds := [.data, .listed, .data, .pinned], laidTests := true, laidLooks := .later }
def EncPartsCardSaid : Prop := Claim7.holds Tryz.pinned (.plain (OpenSpec.ofChange encPartsSpec)) encPartsCard

/-- THE SECOND FORM's CARD OF 'tuckmilllaw05.EncWrites'. -/
def encWritesUptoCard : Claim7 := { stood := { row := encWritesUptoRow, standIns := [], harness := (true, "2b4811ccb7f2c5a397d141e6bcb5231e875c52d2d96ff459e51106f711a627b4"), looks := false }, kinds := [], alts := [], laidByText := true, laidKinds := [.data, .listed, .data, .pinned], laidTests := true, laidLooks := .later }
def EncWritesUptoCardSaid : Prop := Claim7.holds Tryz.pinned (.plain (OpenSpec.upto encWritesSpec)) encWritesUptoCard

/-- THE SECOND FORM's CARD OF 'tuckmilllaw05.EncApart'. -/
def encApartUptoCard : Claim7 := { stood := { row := encApartUptoRow, standIns := [], harness := (true, "2b4811ccb7f2c5a397d141e6bcb5231e875c52d2d96ff459e51106f711a627b4"), looks := false }, kinds := [], alts := [], laidByText := true, laidKinds := [.data, .listed, .data, .pinned], laidTests := true, laidLooks := .later }
def EncApartUptoCardSaid : Prop := Claim7.holds Tryz.pinned (.plain (OpenSpec.upto encApartSpec)) encApartUptoCard

/-- THE SECOND FORM's CARD OF 'tuckmilllaw05.EncRuns'. -/
def encRunsUptoCard : Claim7 := { stood := { row := encRunsUptoRow, standIns := [], harness := (true, "2b4811ccb7f2c5a397d141e6bcb5231e875c52d2d96ff459e51106f711a627b4"), looks := false }, kinds := [], alts := [], laidByText := true, laidKinds := [.data, .listed, .data, .pinned], laidTests := true, laidLooks := .later }
def EncRunsUptoCardSaid : Prop := Claim7.holds Tryz.pinned (.plain (OpenSpec.upto encRunsSpec)) encRunsUptoCard

/-- THE SECOND FORM's CARD OF 'tuckmilllaw05.EncParts'. -/
def encPartsUptoCard : Claim7 := { stood := { row := encPartsUptoRow, standIns := [], harness := (true, "2b4811ccb7f2c5a397d141e6bcb5231e875c52d2d96ff459e51106f711a627b4"), looks := false }, kinds := [], alts := [], laidByText := true, laidKinds := [.data, .listed, .data, .pinned], laidTests := true, laidLooks := .later }
def EncPartsUptoCardSaid : Prop := Claim7.holds Tryz.pinned (.plain (OpenSpec.upto encPartsSpec)) encPartsUptoCard
end Rows
end Go.Proofs.YtofepnojhghnnaaGreatDoor
