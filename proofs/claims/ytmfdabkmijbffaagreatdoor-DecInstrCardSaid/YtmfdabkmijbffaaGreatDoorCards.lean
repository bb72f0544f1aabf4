/-
  DERIVED. GIVEN WITH THE SEED: THE CARDS: each row of YtmfdabkmijbffaaGreatDoorRows.lean that lists a variable, with what it lists TIED to the program's text (the seventh form; the later family's looks); each row that meets fmt, with fmt's text TOLD by the authors' own Lean function (tested against real Go, not proved from fmt's source: count such statements apart). THE CARD IS WHAT COUNTS. Prove the row's statement (the work); the ties are given (YtmfdabkmijbffaaGreatDoorTie.lean); close each card by the builder's one call (the guide's Derived/Test/ToyasCard.lean, 'card_holds'). Laid BY PROGRAM, IN A SANDBOX (cutbox-door.mjs). By AI agents, Wed Nov 11 2026. No macro, syntax, notation, axiom, sorry.
-/
import Derived.Test.YtmfdabkmijbffaaGreatDoorRows
import GoSem.ClaimSeven
namespace Go.Proofs.YtmfdabkmijbffaaGreatDoor
namespace Rows

/-- THE TIED CARD OF 'tuckmilllaw05.EncWrites'. -/
def encWritesCard : Claim7 := { stood := { row := encWritesRow, standIns := [], harness := (true, "9b881bea1dec0a9abd40afd66c57b700ab71494788a80c6e7294574ad9832ff5"), looks := false }, kinds := [], alts := [], laidByText := true, laidKinds := [.data, .listed, .data, .pinned], laidTests := true, laidLooks := .later }
def EncWritesCardSaid : Prop := Claim7.holds Tryz.pinned (.plain (OpenSpec.ofChange encWritesSpec)) encWritesCard

/-- THE TIED CARD OF 'tuckmilllaw06.DecReads'. -/
def decReadsCard : Claim7 := { stood := { row := decReadsRow, standIns := [], harness := (true, "9b881bea1dec0a9abd40afd66c57b700ab71494788a80c6e7294574ad9832ff5"), looks := false }, kinds := [], alts := [], laidByText := true, laidKinds := [.data, .listed, .data, .pinned], laidTests := true, laidLooks := .later }
def DecReadsCardSaid : Prop := Claim7.holds Tryz.pinned (.plain (OpenSpec.ofChange decReadsSpec)) decReadsCard

/-- THE TIED CARD OF 'tuckmilllaw06.DecInstrs'. -/
def decInstrsCard : Claim7 := { stood := { row := decInstrsRow, standIns := [], harness := (true, "9b881bea1dec0a9abd40afd66c57b700ab71494788a80c6e7294574ad9832ff5"), looks := false }, kinds := [], alts := [], laidByText := true, laidKinds := [.data, .listed, .data, .pinned], laidTests := true, laidLooks := .later }
def DecInstrsCardSaid : Prop := Claim7.holds Tryz.pinned (.plain (OpenSpec.ofChange decInstrsSpec)) decInstrsCard

/-- THE TIED CARD OF 'tuckmilllaw06.DecInstr'. -/
def decInstrCard : Claim7 := { stood := { row := decInstrRow, standIns := [], harness := (true, "9b881bea1dec0a9abd40afd66c57b700ab71494788a80c6e7294574ad9832ff5"), looks := false }, kinds := [], alts := [], laidByText := true, laidKinds := [.data, .listed, .data, .pinned], laidTests := true, laidLooks := .later }
def DecInstrCardSaid : Prop := Claim7.holds Tryz.pinned (.plain (OpenSpec.ofChange decInstrSpec)) decInstrCard

/-- THE TIED CARD OF 'tuckmilllaw06.DecBack'. -/
def decBackCard : Claim7 := { stood := { row := decBackRow, standIns := [], harness := (true, "9b881bea1dec0a9abd40afd66c57b700ab71494788a80c6e7294574ad9832ff5"), looks := false }, kinds := [], alts := [], laidByText := true, laidKinds := [.data, .listed, .data, .pinned], laidTests := true, laidLooks := .later }
def DecBackCardSaid : Prop := Claim7.holds Tryz.pinned (.plain (OpenSpec.ofChange decBackSpec)) decBackCard

/-- THE TIED CARD OF 'tuckmilllaw06.DecAgain'. -/
def decAgainCard : Claim7 := { stood := { row := decAgainRow, standIns := [], harness := (true, "9b881bea1dec0a9abd40afd66c57b700ab71494788a80c6e7294574ad9832ff5"), looks := false }, kinds := [], alts := [], laidByText := true, laidKinds := [.data, .listed, .data, .pinned], laidTests := true, laidLooks := .later }
def DecAgainCardSaid : Prop := Claim7.holds Tryz.pinned (.plain (OpenSpec.ofChange decAgainSpec)) decAgainCard

/-- THE TIED CARD OF 'tuckmilllaw06.DecSkips'. -/
def decSkipsCard : Claim7 := { stood := { row := decSkipsRow, standIns := [], harness := (true, "9b881bea1dec0a9abd40afd66c57b700ab71494788a80c6e7294574ad9832ff5"), looks := false }, kinds := [], alts := [], laidByText := true, laidKinds := [.data, .listed, .data, .pinned], laidTests := true, laidLooks := .later }
def DecSkipsCardSaid : Prop := Claim7.holds Tryz.pinned (.plain (OpenSpec.ofChange decSkipsSpec)) decSkipsCard

/-- THE SECOND FORM's CARD OF 'tuckmilllaw05.EncWrites'. -/
def encWritesUptoCard : Claim7 := { stood := { row := encWritesUptoRow, standIns := [], harness := (true, "9b881bea1dec0a9abd40afd66c57b700ab71494788a80c6e7294574ad9832ff5"), looks := false }, kinds := [], alts := [], laidByText := true, laidKinds := [.data, .listed, .data, .pinned], laidTests := true, laidLooks := .later }
def EncWritesUptoCardSaid : Prop := Claim7.holds Tryz.pinned (.plain (OpenSpec.upto encWritesSpec)) encWritesUptoCard

/-- THE SECOND FORM's CARD OF 'tuckmilllaw06.DecReads'. -/
def decReadsUptoCard : Claim7 := { stood := { row := decReadsUptoRow, standIns := [], harness := (true, "9b881bea1dec0a9abd40afd66c57b700ab71494788a80c6e7294574ad9832ff5"), looks := false }, kinds := [], alts := [], laidByText := true, laidKinds := [.data, .listed, .data, .pinned], laidTests := true, laidLooks := .later }
def DecReadsUptoCardSaid : Prop := Claim7.holds Tryz.pinned (.plain (OpenSpec.upto decReadsSpec)) decReadsUptoCard

/-- THE SECOND FORM's CARD OF 'tuckmilllaw06.DecInstrs'. -/
def decInstrsUptoCard : Claim7 := { stood := { row := decInstrsUptoRow, standIns := [], harness := (true, "9b881bea1dec0a9abd40afd66c57b700ab71494788a80c6e7294574ad9832ff5"), looks := false }, kinds := [], alts := [], laidByText := true, laidKinds := [.data, .listed, .data, .pinned], laidTests := true, laidLooks := .later }
def DecInstrsUptoCardSaid : Prop := Claim7.holds Tryz.pinned (.plain (OpenSpec.upto decInstrsSpec)) decInstrsUptoCard

/-- THE SECOND FORM's CARD OF 'tuckmilllaw06.DecInstr'. -/
def decInstrUptoCard : Claim7 := { stood := { row := decInstrUptoRow, standIns := [], harness := (true, "9b881bea1dec0a9abd40afd66c57b700ab71494788a80c6e7294574ad9832ff5"), looks := false }, kinds := [], alts := [], laidByText := true, laidKinds := [.data, .listed, .data, .pinned], laidTests := true, laidLooks := .later }
def DecInstrUptoCardSaid : Prop := Claim7.holds Tryz.pinned (.plain (OpenSpec.upto decInstrSpec)) decInstrUptoCard

/-- THE SECOND FORM's CARD OF 'tuckmilllaw06.DecBack'. -/
def decBackUptoCard : Claim7 := { stood := { row := decBackUptoRow, standIns := [], harness := (true, "9b881bea1dec0a9abd40afd66c57b700ab71494788a80c6e7294574ad9832ff5"), looks := false }, kinds := [], alts := [], laidByText := true, laidKinds := [.data, .listed, .data, .pinned], laidTests := true, laidLooks := .later }
def DecBackUptoCardSaid : Prop := Claim7.holds Tryz.pinned (.plain (OpenSpec.upto decBackSpec)) decBackUptoCard

/-- THE SECOND FORM's CARD OF 'tuckmilllaw06.DecAgain'. -/
def decAgainUptoCard : Claim7 := { stood := { row := decAgainUptoRow, standIns := [], harness := (true, "9b881bea1dec0a9abd40afd66c57b700ab71494788a80c6e7294574ad9832ff5"), looks := false }, kinds := [], alts := [], laidByText := true, laidKinds := [.data, .listed, .data, .pinned], laidTests := true, laidLooks := .later }
def DecAgainUptoCardSaid : Prop := Claim7.holds Tryz.pinned (.plain (OpenSpec.upto decAgainSpec)) decAgainUptoCard

/-- THE SECOND FORM's CARD OF 'tuckmilllaw06.DecSkips'. -/
def decSkipsUptoCard : Claim7 := { stood := { row := decSkipsUptoRow, standIns := [], harness := (true, "9b881bea1dec0a9abd40afd66c57b700ab71494788a80c6e7294574ad9832ff5"), looks := false }, kinds := [], alts := [], laidByText := true, laidKinds := [.data, .listed, .data, .pinned], laidTests := true, laidLooks := .later }
def DecSkipsUptoCardSaid : Prop := Claim7.holds Tryz.pinned (.plain (OpenSpec.upto decSkipsSpec)) decSkipsUptoCard
end Rows
end Go.Proofs.YtmfdabkmijbffaaGreatDoor
