/-
  DERIVED. GIVEN WITH THE SEED: THE CARDS: each row of YteidhccnbfikcaaGreatDoorRows.lean that lists a variable, with what it lists TIED to the program's text (the seventh form; the later family's looks); each row that meets fmt, with fmt's text TOLD by the authors' own Lean function (tested against real Go, not proved from fmt's source: count such statements apart). THE CARD IS WHAT COUNTS. Prove the row's statement (the work); the ties are given (YteidhccnbfikcaaGreatDoorTie.lean); close each card by the builder's one call (the guide's Derived/Test/ToyasCard.lean, 'card_holds'). Laid BY PROGRAM, IN A SANDBOX (cutbox-door.mjs). By AI agents, Wed Nov 11 2026. No macro, syntax, notation, axiom, sorry.
-/
import Derived.Test.YteidhccnbfikcaaGreatDoorRows
import GoSem.ClaimSeven
namespace Go.Proofs.YteidhccnbfikcaaGreatDoor
namespace Rows

/-- THE TIED CARD OF 'tuckmilllaw05.EncWrites'. -/
def encWritesCard : Claim7 := { stood := { row := encWritesRow, standIns := [], harness := (true, "d7127bf4e256fc07743e96312293fc5f1b613aeef2dc2bb3b3db79a084404565"), looks := false }, kinds := [], alts := [], laidByText := true, laidKinds := [.data, .listed, .data, .pinned], laidTests := true, laidLooks := .later }
def EncWritesCardSaid : Prop := Claim7.holds Tryz.pinned (.plain (OpenSpec.ofChange encWritesSpec)) encWritesCard

/-- THE TIED CARD OF 'tuckmilllaw06.DecReads'. -/
def decReadsCard : Claim7 := { stood := { row := decReadsRow, standIns := [], harness := (true, "d7127bf4e256fc07743e96312293fc5f1b613aeef2dc2bb3b3db79a084404565"), looks := false }, kinds := [], alts := [], laidByText := true, laidKinds := [.data, .listed, .data, .pinned], laidTests := true, laidLooks := .later }
def DecReadsCardSaid : Prop := Claim7.holds Tryz.pinned (.plain (OpenSpec.ofChange decReadsSpec)) decReadsCard

/-- THE TIED CARD OF 'tuckmilllaw06.DecInstrs'. -/
def decInstrsCard : Claim7 := { stood := { row := decInstrsRow, standIns := [], harness := (true, "d7127bf4e256fc07743e96312293fc5f1b613aeef2dc2bb3b3db79a084404565"), looks := false }, kinds := [], alts := [], laidByText := true, laidKinds := [.data, .listed, .data, .pinned], laidTests := true, laidLooks := .later }
def DecInstrsCardSaid : Prop := Claim7.holds Tryz.pinned (.plain (OpenSpec.ofChange decInstrsSpec)) decInstrsCard

/-- THE SECOND FORM's CARD OF 'tuckmilllaw05.EncWrites'. -/
def encWritesUptoCard : Claim7 := { stood := { row := encWritesUptoRow, standIns := [], harness := (true, "d7127bf4e256fc07743e96312293fc5f1b613aeef2dc2bb3b3db79a084404565"), looks := false }, kinds := [], alts := [], laidByText := true, laidKinds := [.data, .listed, .data, .pinned], laidTests := true, laidLooks := .later }
def EncWritesUptoCardSaid : Prop := Claim7.holds Tryz.pinned (.plain (OpenSpec.upto encWritesSpec)) encWritesUptoCard

/-- THE SECOND FORM's CARD OF 'tuckmilllaw06.DecReads'. -/
def decReadsUptoCard : Claim7 := { stood := { row := decReadsUptoRow, standIns := [], harness := (true, "d7127bf4e256fc07743e96312293fc5f1b613aeef2dc2bb3b3db79a084404565"), looks := false }, kinds := [], alts := [], laidByText := true, laidKinds := [.data, .listed, .data, .pinned], laidTests := true, laidLooks := .later }
def DecReadsUptoCardSaid : Prop := Claim7.holds Tryz.pinned (.plain (OpenSpec.upto decReadsSpec)) decReadsUptoCard

/-- THE SECOND FORM's CARD OF 'tuckmilllaw06.DecInstrs'. -/
def decInstrsUptoCard : Claim7 := { stood := { row := decInstrsUptoRow, standIns := [], harness := (true, "d7127bf4e256fc07743e96312293fc5f1b613aeef2dc2bb3b3db79a084404565"), looks := false }, kinds := [], alts := [], laidByText := true, laidKinds := [.data, .listed, .data, .pinned], laidTests := true, laidLooks := .later }
def DecInstrsUptoCardSaid : Prop := Claim7.holds Tryz.pinned (.plain (OpenSpec.upto decInstrsSpec)) decInstrsUptoCard
end Rows
end Go.Proofs.YteidhccnbfikcaaGreatDoor
