/-
  DERIVED. GIVEN WITH THE SEED: THE CARDS: each row of YtlbgbpgjccbbjaaDoorRows.lean that lists a variable, with what it lists TIED to the program's text (the seventh form; the later family's looks); each row that meets fmt, with fmt's text TOLD by the authors' own Lean function (tested against real Go, not proved from fmt's source: count such statements apart). THE CARD IS WHAT COUNTS. Prove the row's statement (the work); the ties are given (YtlbgbpgjccbbjaaDoorTie.lean); close each card by the builder's one call (the guide's Derived/Test/ToyasCard.lean, 'card_holds'). Laid BY PROGRAM, IN A SANDBOX (cutbox-door.mjs). By AI agents, Wed Nov 11 2026. No macro, syntax, notation, axiom, sorry.
-/
import Derived.Test.YtlbgbpgjccbbjaaDoorRows
import GoSem.ClaimSeven
namespace Go.Proofs.YtlbgbpgjccbbjaaDoor
namespace Rows

/-- THE TIED CARD OF 'tuckmilllaw03.OpInfos'. -/
def opInfosCard : Claim7 := { stood := { row := opInfosRow, standIns := [], harness := (true, "5d2f2941cfe7fe5adfc35d551ba41fd8eb681d01c91bfb498a4be2d2056d14d4"), looks := false }, kinds := [], alts := [], laidByText := true, laidKinds := [.data, .listed, .data, .pinned], laidTests := true, laidLooks := .later }
def OpInfosCardSaid : Prop := Claim7.holds Tryd.pinned (.plain (OpenSpec.ofChange opInfosSpec)) opInfosCard

/-- THE TIED CARD OF 'tuckmilllaw03.OpRights'. -/
def opRightsCard : Claim7 := { stood := { row := opRightsRow, standIns := [], harness := (true, "5d2f2941cfe7fe5adfc35d551ba41fd8eb681d01c91bfb498a4be2d2056d14d4"), looks := false }, kinds := [], alts := [], laidByText := true, laidKinds := [.data, .listed, .data, .pinned], laidTests := true, laidLooks := .later }
def OpRightsCardSaid : Prop := Claim7.holds Tryd.pinned (.plain (OpenSpec.ofChange opRightsSpec)) opRightsCard

/-- THE TIED CARD OF 'tuckmilllaw03.OpNames'. -/
def opNamesCard : Claim7 := { stood := { row := opNamesRow, standIns := [], harness := (true, "5d2f2941cfe7fe5adfc35d551ba41fd8eb681d01c91bfb498a4be2d2056d14d4"), looks := false }, kinds := [], alts := [], laidByText := true, laidKinds := [.data, .listed, .data, .pinned], laidTests := true, laidLooks := .later }
def OpNamesCardSaid : Prop := Claim7.holds Tryd.pinned (.plain (OpenSpec.ofChange opNamesSpec)) opNamesCard

/-- THE TIED CARD OF 'tuckmilllaw03.OpTwins'. -/
def opTwinsCard : Claim7 := { stood := { row := opTwinsRow, standIns := [], harness := (true, "5d2f2941cfe7fe5adfc35d551ba41fd8eb681d01c91bfb498a4be2d2056d14d4"), looks := false }, kinds := [], alts := [], laidByText := true, laidKinds := [.data, .listed, .data, .pinned], laidTests := true, laidLooks := .later }
def OpTwinsCardSaid : Prop := Claim7.holds Tryd.pinned (.plain (OpenSpec.ofChange opTwinsSpec)) opTwinsCard

/-- THE TIED CARD OF 'tuckmilllaw03.OpRanges'. -/
def opRangesCard : Claim7 := { stood := { row := opRangesRow, standIns := [], harness := (true, "5d2f2941cfe7fe5adfc35d551ba41fd8eb681d01c91bfb498a4be2d2056d14d4"), looks := false }, kinds := [], alts := [], laidByText := true, laidKinds := [.data, .listed, .data, .pinned], laidTests := true, laidLooks := .later }
def OpRangesCardSaid : Prop := Claim7.holds Tryd.pinned (.plain (OpenSpec.ofChange opRangesSpec)) opRangesCard

/-- THE TIED CARD OF 'tuckmilllaw17.AsmLocals'. -/
def asmLocalsCard : Claim7 := { stood := { row := asmLocalsRow, standIns := [], harness := (true, "5d2f2941cfe7fe5adfc35d551ba41fd8eb681d01c91bfb498a4be2d2056d14d4"), looks := false }, kinds := [], alts := [], laidByText := true, laidKinds := [.data, .listed, .data, .pinned], laidTests := true, laidLooks := .later }
def AsmLocalsCardSaid : Prop := Claim7.holds Tryd.pinned (.plain (OpenSpec.ofChange asmLocalsSpec)) asmLocalsCard

/-- THE TIED CARD OF 'tuckmilllaw17.AsmLabels'. -/
def asmLabelsCard : Claim7 := { stood := { row := asmLabelsRow, standIns := [], harness := (true, "5d2f2941cfe7fe5adfc35d551ba41fd8eb681d01c91bfb498a4be2d2056d14d4"), looks := false }, kinds := [], alts := [], laidByText := true, laidKinds := [.data, .listed, .data, .pinned], laidTests := true, laidLooks := .later }
def AsmLabelsCardSaid : Prop := Claim7.holds Tryd.pinned (.plain (OpenSpec.ofChange asmLabelsSpec)) asmLabelsCard

/-- THE TIED CARD OF 'tuckmilllaw17.AsmPlays'. -/
def asmPlaysCard : Claim7 := { stood := { row := asmPlaysRow, standIns := [], harness := (true, "5d2f2941cfe7fe5adfc35d551ba41fd8eb681d01c91bfb498a4be2d2056d14d4"), looks := false }, kinds := [], alts := [], laidByText := true, laidKinds := [.data, .listed, .data, .pinned], laidTests := true, laidLooks := .later }
def AsmPlaysCardSaid : Prop := Claim7.holds Tryd.pinned (.plain (OpenSpec.ofChange asmPlaysSpec)) asmPlaysCard

/-- THE TIED CARD OF 'tuckmilllaw17.AsmRefuses'. -/
def asmRefusesCard : Claim7 := { stood := { row := asmRefusesRow, standIns := [], harness := (true, "5d2f2941cfe7fe5adfc35d551ba41fd8eb681d01c91bfb498a4be2d2056d14d4"), looks := false }, kinds := [], alts := [], laidByText := true, laidKinds := [.data, .listed, .data, .pinned], laidTests := true, laidLooks := .later }
def AsmRefusesCardSaid : Prop := Claim7.holds Tryd.pinned (.plain (OpenSpec.ofChange asmRefusesSpec)) asmRefusesCard

/-- THE TIED CARD OF 'tuckmilllaw17.AsmRight'. -/
def asmRightCard : Claim7 := { stood := { row := asmRightRow, standIns := [], harness := (true, "5d2f2941cfe7fe5adfc35d551ba41fd8eb681d01c91bfb498a4be2d2056d14d4"), looks := false }, kinds := [], alts := [], laidByText := true, laidKinds := [.data, .listed, .data, .pinned], laidTests := true, laidLooks := .later }
def AsmRightCardSaid : Prop := Claim7.holds Tryd.pinned (.plain (OpenSpec.ofChange asmRightSpec)) asmRightCard

/-- THE SECOND FORM's CARD OF 'tuckmilllaw03.OpInfos'. -/
def opInfosUptoCard : Claim7 := { stood := { row := opInfosUptoRow, standIns := [], harness := (true, "5d2f2941cfe7fe5adfc35d551ba41fd8eb681d01c91bfb498a4be2d2056d14d4"), looks := false }, kinds := [], alts := [], laidByText := true, laidKinds := [.data, .listed, .data, .pinned], laidTests := true, laidLooks := .later }
def OpInfosUptoCardSaid : Prop := Claim7.holds Tryd.pinned (.plain (OpenSpec.upto opInfosSpec)) opInfosUptoCard

/-- THE SECOND FORM's CARD OF 'tuckmilllaw03.OpRights'. -/
def opRightsUptoCard : Claim7 := { stood := { row := opRightsUptoRow, standIns := [], harness := (true, "5d2f2941cfe7fe5adfc35d551ba41fd8eb681d01c91bfb498a4be2d2056d14d4"), looks := false }, kinds := [], alts := [], laidByText := true, laidKinds := [.data, .listed, .data, .pinned], laidTests := true, laidLooks := .later }
def OpRightsUptoCardSaid : Prop := Claim7.holds Tryd.pinned (.plain (OpenSpec.upto opRightsSpec)) opRightsUptoCard

/-- THE SECOND FORM's CARD OF 'tuckmilllaw03.OpNames'. -/
def opNamesUptoCard : Claim7 := { stood := { row := opNamesUptoRow, standIns := [], harness := (true, "5d2f2941cfe7fe5adfc35d551ba41fd8eb681d01c91bfb498a4be2d2056d14d4"), looks := false }, kinds := [], alts := [], laidByText := true, laidKinds := [.data, .listed, .data, .pinned], laidTests := true, laidLooks := .later }
def OpNamesUptoCardSaid : Prop := Claim7.holds Tryd.pinned (.plain (OpenSpec.upto opNamesSpec)) opNamesUptoCard

/-- THE SECOND FORM's CARD OF 'tuckmilllaw03.OpTwins'. -/
def opTwinsUptoCard : Claim7 := { stood := { row := opTwinsUptoRow, standIns := [], harness := (true, "5d2f2941cfe7fe5adfc35d551ba41fd8eb681d01c91bfb498a4be2d2056d14d4"), looks := false }, kinds := [], alts := [], laidByText := true, laidKinds := [.data, .listed, .data, .pinned], laidTests := true, laidLooks := .later }
def OpTwinsUptoCardSaid : Prop := Claim7.holds Tryd.pinned (.plain (OpenSpec.upto opTwinsSpec)) opTwinsUptoCard

/-- THE SECOND FORM's CARD OF 'tuckmilllaw03.OpRanges'. -/
def opRangesUptoCard : Claim7 := { stood := { row := opRangesUptoRow, standIns := [], harness := (true, "5d2f2941cfe7fe5adfc35d551ba41fd8eb681d01c91bfb498a4be2d2056d14d4"), looks := false }, kinds := [], alts := [], laidByText := true, laidKinds := [.data, .listed, .data, .pinned], laidTests := true, laidLooks := .later }
def OpRangesUptoCardSaid : Prop := Claim7.holds Tryd.pinned (.plain (OpenSpec.upto opRangesSpec)) opRangesUptoCard

/-- THE SECOND FORM's CARD OF 'tuckmilllaw17.AsmLocals'. -/
def asmLocalsUptoCard : Claim7 := { stood := { row := asmLocalsUptoRow, standIns := [], harness := (true, "5d2f2941cfe7fe5adfc35d551ba41fd8eb681d01c91bfb498a4be2d2056d14d4"), looks := false }, kinds := [], alts := [], laidByText := true, laidKinds := [.data, .listed, .data, .pinned], laidTests := true, laidLooks := .later }
def AsmLocalsUptoCardSaid : Prop := Claim7.holds Tryd.pinned (.plain (OpenSpec.upto asmLocalsSpec)) asmLocalsUptoCard

/-- THE SECOND FORM's CARD OF 'tuckmilllaw17.AsmLabels'. -/
def asmLabelsUptoCard : Claim7 := { stood := { row := asmLabelsUptoRow, standIns := [], harness := (true, "5d2f2941cfe7fe5adfc35d551ba41fd8eb681d01c91bfb498a4be2d2056d14d4"), looks := false }, kinds := [], alts := [], laidByText := true, laidKinds := [.data, .listed, .data, .pinned], laidTests := true, laidLooks := .later }
def AsmLabelsUptoCardSaid : Prop := Claim7.holds Tryd.pinned (.plain (OpenSpec.upto asmLabelsSpec)) asmLabelsUptoCard

/-- THE SECOND FORM's CARD OF 'tuckmilllaw17.AsmPlays'. -/
def asmPlaysUptoCard : Claim7 := { stood := { row := asmPlaysUptoRow, standIns := [], harness := (true, "5d2f2941cfe7fe5adfc35d551ba41fd8eb681d01c91bfb498a4be2d2056d14d4"), looks := false }, kinds := [], alts := [], laidByText := true, laidKinds := [.data, .listed, .data, .pinned], laidTests := true, laidLooks := .later }
def AsmPlaysUptoCardSaid : Prop := Claim7.holds Tryd.pinned (.plain (OpenSpec.upto asmPlaysSpec)) asmPlaysUptoCard

/-- THE SECOND FORM's CARD OF 'tuckmilllaw17.AsmRefuses'. -/
def asmRefusesUptoCard : Claim7 := { stood := { row := asmRefusesUptoRow, standIns := [], harness := (true, "5d2f2941cfe7fe5adfc35d551ba41fd8eb681d01c91bfb498a4be2d2056d14d4"), looks := false }, kinds := [], alts := [], laidByText := true, laidKinds := [.data, .listed, .data, .pinned], laidTests := true, laidLooks := .later }
def AsmRefusesUptoCardSaid : Prop := Claim7.holds Tryd.pinned (.plain (OpenSpec.upto asmRefusesSpec)) asmRefusesUptoCard

/-- THE SECOND FORM's CARD OF 'tuckmilllaw17.AsmRight'. -/
def asmRightUptoCard : Claim7 := { stood := { row := asmRightUptoRow, standIns := [], harness := (true, "5d2f2941cfe7fe5adfc35d551ba41fd8eb681d01c91bfb498a4be2d2056d14d4"), looks := false }, kinds := [], alts := [], laidByText := true, laidKinds := [.data, .listed, .data, .pinned], laidTests := true, laidLooks := .later }
def AsmRightUptoCardSaid : Prop := Claim7.holds Tryd.pinned (.plain (OpenSpec.upto asmRightSpec)) asmRightUptoCard
end Rows
end Go.Proofs.YtlbgbpgjccbbjaaDoor
