/-
  DERIVED. GIVEN WITH THE SEED: THE CARDS: each row of YtebikmnegemggaaDoorRows.lean that lists a variable, with what it lists TIED to the program's text (the seventh form; the later family's looks); each row that meets fmt, with fmt's text TOLD by the authors' own Lean function (tested against real Go, not proved from fmt's source: count such statements apart). THE CARD IS WHAT COUNTS. Prove the row's statement (the work); the ties are given (YtebikmnegemggaaDoorTie.lean); close each card by the builder's one call (the guide's Derived/Test/ToyasCard.lean, 'card_holds'). Laid BY PROGRAM, IN A SANDBOX (cutbox-door.mjs). By AI agents, Wed Nov 11 2026. No macro, syntax, notation, axiom, sorry.
-/
import Derived.Test.YtebikmnegemggaaDoorRows
import GoSem.ClaimSeven
namespace Go.Proofs.YtebikmnegemggaaDoor
namespace Rows

/-- THE TIED CARD OF 'tuckmilllaw02.NumOnes'. -/
def numOnesCard : Claim7 := { stood := { row := numOnesRow, standIns := [], harness := (true, "49cf713228c2bef08143bff81c3dedab10b839cfe6f7955a0d1dfd309f17f8c8"), looks := false }, kinds := [], alts := [], laidByText := true, laidKinds := [.data, .data], laidTests := true, laidLooks := .later }
def NumOnesCardSaid : Prop := Claim7.holds Tryd.pinned (.plain (OpenSpec.ofChange numOnesSpec)) numOnesCard

/-- THE TIED CARD OF 'tuckmilllaw02.NumTwos'. -/
def numTwosCard : Claim7 := { stood := { row := numTwosRow, standIns := [], harness := (true, "49cf713228c2bef08143bff81c3dedab10b839cfe6f7955a0d1dfd309f17f8c8"), looks := false }, kinds := [], alts := [], laidByText := true, laidKinds := [.data, .data], laidTests := true, laidLooks := .later }
def NumTwosCardSaid : Prop := Claim7.holds Tryd.pinned (.plain (OpenSpec.ofChange numTwosSpec)) numTwosCard

/-- THE TIED CARD OF 'tuckmilllaw02.NumDivides'. -/
def numDividesCard : Claim7 := { stood := { row := numDividesRow, standIns := [], harness := (true, "49cf713228c2bef08143bff81c3dedab10b839cfe6f7955a0d1dfd309f17f8c8"), looks := false }, kinds := [], alts := [], laidByText := true, laidKinds := [.data, .data], laidTests := true, laidLooks := .later }
def NumDividesCardSaid : Prop := Claim7.holds Tryd.pinned (.plain (OpenSpec.ofChange numDividesSpec)) numDividesCard

/-- THE TIED CARD OF 'tuckmilllaw02.NumTurns'. -/
def numTurnsCard : Claim7 := { stood := { row := numTurnsRow, standIns := [], harness := (true, "49cf713228c2bef08143bff81c3dedab10b839cfe6f7955a0d1dfd309f17f8c8"), looks := false }, kinds := [], alts := [], laidByText := true, laidKinds := [.data, .data], laidTests := true, laidLooks := .later }
def NumTurnsCardSaid : Prop := Claim7.holds Tryd.pinned (.plain (OpenSpec.ofChange numTurnsSpec)) numTurnsCard

/-- THE TIED CARD OF 'tuckmilllaw02.NumTests'. -/
def numTestsCard : Claim7 := { stood := { row := numTestsRow, standIns := [], harness := (true, "49cf713228c2bef08143bff81c3dedab10b839cfe6f7955a0d1dfd309f17f8c8"), looks := false }, kinds := [], alts := [], laidByText := true, laidKinds := [.data, .data], laidTests := true, laidLooks := .later }
def NumTestsCardSaid : Prop := Claim7.holds Tryd.pinned (.plain (OpenSpec.ofChange numTestsSpec)) numTestsCard

/-- THE TIED CARD OF 'tuckmilllaw02.NumBits'. -/
def numBitsCard : Claim7 := { stood := { row := numBitsRow, standIns := [], harness := (true, "49cf713228c2bef08143bff81c3dedab10b839cfe6f7955a0d1dfd309f17f8c8"), looks := false }, kinds := [], alts := [], laidByText := true, laidKinds := [.data, .data], laidTests := true, laidLooks := .later }
def NumBitsCardSaid : Prop := Claim7.holds Tryd.pinned (.plain (OpenSpec.ofChange numBitsSpec)) numBitsCard

/-- THE TIED CARD OF 'tuckmilllaw02.NumHalves'. -/
def numHalvesCard : Claim7 := { stood := { row := numHalvesRow, standIns := [], harness := (true, "49cf713228c2bef08143bff81c3dedab10b839cfe6f7955a0d1dfd309f17f8c8"), looks := false }, kinds := [], alts := [], laidByText := true, laidKinds := [.data, .data], laidTests := true, laidLooks := .later }
def NumHalvesCardSaid : Prop := Claim7.holds Tryd.pinned (.plain (OpenSpec.ofChange numHalvesSpec)) numHalvesCard

/-- THE TIED CARD OF 'tuckmilllaw02.NumAdds'. -/
def numAddsCard : Claim7 := { stood := { row := numAddsRow, standIns := [], harness := (true, "49cf713228c2bef08143bff81c3dedab10b839cfe6f7955a0d1dfd309f17f8c8"), looks := false }, kinds := [], alts := [], laidByText := true, laidKinds := [.data, .data], laidTests := true, laidLooks := .later }
def NumAddsCardSaid : Prop := Claim7.holds Tryd.pinned (.plain (OpenSpec.ofChange numAddsSpec)) numAddsCard

/-- THE TIED CARD OF 'tuckmilllaw02.NumShifts'. -/
def numShiftsCard : Claim7 := { stood := { row := numShiftsRow, standIns := [], harness := (true, "49cf713228c2bef08143bff81c3dedab10b839cfe6f7955a0d1dfd309f17f8c8"), looks := false }, kinds := [], alts := [], laidByText := true, laidKinds := [.data, .data], laidTests := true, laidLooks := .later }
def NumShiftsCardSaid : Prop := Claim7.holds Tryd.pinned (.plain (OpenSpec.ofChange numShiftsSpec)) numShiftsCard

/-- THE SECOND FORM's CARD OF 'tuckmilllaw02.NumOnes'. -/
def numOnesUptoCard : Claim7 := { stood := { row := numOnesUptoRow, standIns := [], harness := (true, "49cf713228c2bef08143bff81c3dedab10b839cfe6f7955a0d1dfd309f17f8c8"), looks := false }, kinds := [], alts := [], laidByText := true, laidKinds := [.data, .data], laidTests := true, laidLooks := .later }
def NumOnesUptoCardSaid : Prop := Claim7.holds Tryd.pinned (.plain (OpenSpec.upto numOnesSpec)) numOnesUptoCard

/-- THE SECOND FORM's CARD OF 'tuckmilllaw02.NumTwos'. -/
def numTwosUptoCard : Claim7 := { stood := { row := numTwosUptoRow, standIns := [], harness := (true, "49cf713228c2bef08143bff81c3dedab10b839cfe6f7955a0d1dfd309f17f8c8"), looks := false }, kinds := [], alts := [], laidByText := true, laidKinds := [.data, .data], laidTests := true, laidLooks := .later }
def NumTwosUptoCardSaid : Prop := Claim7.holds Tryd.pinned (.plain (OpenSpec.upto numTwosSpec)) numTwosUptoCard

/-- THE SECOND FORM's CARD OF 'tuckmilllaw02.NumDivides'. -/
def numDividesUptoCard : Claim7 := { stood := { row := numDividesUptoRow, standIns := [], harness := (true, "49cf713228c2bef08143bff81c3dedab10b839cfe6f7955a0d1dfd309f17f8c8"), looks := false }, kinds := [], alts := [], laidByText := true, laidKinds := [.data, .data], laidTests := true, laidLooks := .later }
def NumDividesUptoCardSaid : Prop := Claim7.holds Tryd.pinned (.plain (OpenSpec.upto numDividesSpec)) numDividesUptoCard

/-- THE SECOND FORM's CARD OF 'tuckmilllaw02.NumTurns'. -/
def numTurnsUptoCard : Claim7 := { stood := { row := numTurnsUptoRow, standIns := [], harness := (true, "49cf713228c2bef08143bff81c3dedab10b839cfe6f7955a0d1dfd309f17f8c8"), looks := false }, kinds := [], alts := [], laidByText := true, laidKinds := [.data, .data], laidTests := true, laidLooks := .later }
def NumTurnsUptoCardSaid : Prop := Claim7.holds Tryd.pinned (.plain (OpenSpec.upto numTurnsSpec)) numTurnsUptoCard

/-- THE SECOND FORM's CARD OF 'tuckmilllaw02.NumTests'. -/
def numTestsUptoCard : Claim7 := { stood := { row := numTestsUptoRow, standIns := [], harness := (true, "49cf713228c2bef08143bff81c3dedab10b839cfe6f7955a0d1dfd309f17f8c8"), looks := false }, kinds := [], alts := [], laidByText := true, laidKinds := [.data, .data], laidTests := true, laidLooks := .later }
def NumTestsUptoCardSaid : Prop := Claim7.holds Tryd.pinned (.plain (OpenSpec.upto numTestsSpec)) numTestsUptoCard

/-- THE SECOND FORM's CARD OF 'tuckmilllaw02.NumBits'. -/
def numBitsUptoCard : Claim7 := { stood := { row := numBitsUptoRow, standIns := [], harness := (true, "49cf713228c2bef08143bff81c3dedab10b839cfe6f7955a0d1dfd309f17f8c8"), looks := false }, kinds := [], alts := [], laidByText := true, laidKinds := [.data, .data], laidTests := true, laidLooks := .later }
def NumBitsUptoCardSaid : Prop := Claim7.holds Tryd.pinned (.plain (OpenSpec.upto numBitsSpec)) numBitsUptoCard

/-- THE SECOND FORM's CARD OF 'tuckmilllaw02.NumHalves'. -/
def numHalvesUptoCard : Claim7 := { stood := { row := numHalvesUptoRow, standIns := [], harness := (true, "49cf713228c2bef08143bff81c3dedab10b839cfe6f7955a0d1dfd309f17f8c8"), looks := false }, kinds := [], alts := [], laidByText := true, laidKinds := [.data, .data], laidTests := true, laidLooks := .later }
def NumHalvesUptoCardSaid : Prop := Claim7.holds Tryd.pinned (.plain (OpenSpec.upto numHalvesSpec)) numHalvesUptoCard

/-- THE SECOND FORM's CARD OF 'tuckmilllaw02.NumAdds'. -/
def numAddsUptoCard : Claim7 := { stood := { row := numAddsUptoRow, standIns := [], harness := (true, "49cf713228c2bef08143bff81c3dedab10b839cfe6f7955a0d1dfd309f17f8c8"), looks := false }, kinds := [], alts := [], laidByText := true, laidKinds := [.data, .data], laidTests := true, laidLooks := .later }
def NumAddsUptoCardSaid : Prop := Claim7.holds Tryd.pinned (.plain (OpenSpec.upto numAddsSpec)) numAddsUptoCard

/-- THE SECOND FORM's CARD OF 'tuckmilllaw02.NumShifts'. -/
def numShiftsUptoCard : Claim7 := { stood := { row := numShiftsUptoRow, standIns := [], harness := (true, "49cf713228c2bef08143bff81c3dedab10b839cfe6f7955a0d1dfd309f17f8c8"), looks := false }, kinds := [], alts := [], laidByText := true, laidKinds := [.data, .data], laidTests := true, laidLooks := .later }
def NumShiftsUptoCardSaid : Prop := Claim7.holds Tryd.pinned (.plain (OpenSpec.upto numShiftsSpec)) numShiftsUptoCard
end Rows
end Go.Proofs.YtebikmnegemggaaDoor
