/-
  No cell of these rows narrows 'for every input' (looked for: loops, veiled, ifaces, maps, wideKeys, modest, calm, conditions, laid).
  DERIVED. THE GIVEN ROWS OF THIS SEAT. 8 by the template 'for every input the law returns true; each argument reads behind the call as it read before'; 0 by the template 'total and deterministic' (their statements: YtckigiemeimheaaTotals.lean).
  GIVEN WITH THE SEED: the statements are not yours to turn. If you find one false, say at which input.
  Laid BY PROGRAM, IN A SANDBOX (cutbox-rows.mjs): the forced cells as the released guide's own fill.sh prints them over the translation bb59a21875e7b273… (all of the seat's roots in one cut). By AI agents, Wed Nov 11 2026. No macro, syntax, notation, axiom, sorry.
-/
import Derived.Test.YtckigiemeimheaaChecked
import GoSem.Claim
import GoSem.ClaimJoined
import GoSem.ClaimMapViews
import Derived.JoinedTies
import Derived.KernelRfl
namespace Go.Proofs.Ytckigiemeimheaa
/- THE CELL 'sum', in the pinned program and in every row, IS THE sha256 OF THE DUMP (.gsa) THAT YtckigiemeimheaaProg.lean LOADS. Nothing in Lean hashes anything: it is a label: what it is worth is what the hold of that sum in a sandbox is worth. -/
noncomputable def Try.pinned : Pinned := { name := "ytckigiemeimheaa", sum := "bb59a21875e7b273460d7387416df7304855a8e113fd2ea8cd11c49a9eeefd71", checked := Try.checked }
namespace Rows
def none {H : Type} : Left H := { results := [], args := [] }

/-- 'tuckmilllaw01.LebWrites': WHATEVER THE INPUT: true; the input reads as it did. -/
def lebWritesSpec : ChangeSpec := { name := "lebWrites", fn := fun _ => fun
  | [d1, d2] => { results := [.lit (.bool true)], args := [d1, d2] }
  | _ => none }
def lebWritesRow : OpenClaim := { program := "ytckigiemeimheaa", sum := "bb59a21875e7b273460d7387416df7304855a8e113fd2ea8cd11c49a9eeefd71", func := "tuckmill/tuckmilllaw01.LebWrites", spec := "lebWrites", apart := false }
def LebWritesSaid : Prop := lebWritesRow.holds Try.pinned (OpenSpec.ofChange lebWritesSpec)

/-- ITS FALSE NEIGHBOUR: 'it returns false'. Refute it at one input. -/
def lebWritesWrong : ChangeSpec := { name := "lebWrites", fn := fun _ => fun
  | [d1, d2] => { results := [.lit (.bool false)], args := [d1, d2] }
  | _ => none }
def LebWritesWrongFalsely : Prop := lebWritesRow.holds Try.pinned (OpenSpec.ofChange lebWritesWrong)

/-- 'tuckmilllaw01.LebSizes': WHATEVER THE INPUT: true; the input reads as it did. -/
def lebSizesSpec : ChangeSpec := { name := "lebSizes", fn := fun _ => fun
  | [d1, d2] => { results := [.lit (.bool true)], args := [d1, d2] }
  | _ => none }
def lebSizesRow : OpenClaim := { program := "ytckigiemeimheaa", sum := "bb59a21875e7b273460d7387416df7304855a8e113fd2ea8cd11c49a9eeefd71", func := "tuckmill/tuckmilllaw01.LebSizes", spec := "lebSizes", apart := false }
def LebSizesSaid : Prop := lebSizesRow.holds Try.pinned (OpenSpec.ofChange lebSizesSpec)

/-- ITS FALSE NEIGHBOUR: 'it returns false'. Refute it at one input. -/
def lebSizesWrong : ChangeSpec := { name := "lebSizes", fn := fun _ => fun
  | [d1, d2] => { results := [.lit (.bool false)], args := [d1, d2] }
  | _ => none }
def LebSizesWrongFalsely : Prop := lebSizesRow.holds Try.pinned (OpenSpec.ofChange lebSizesWrong)

/-- 'tuckmilllaw01.LebBack': WHATEVER THE INPUT: true; the input reads as it did. -/
def lebBackSpec : ChangeSpec := { name := "lebBack", fn := fun _ => fun
  | [d1, d2, d3, d4] => { results := [.lit (.bool true)], args := [d1, d2, d3, d4] }
  | _ => none }
def lebBackRow : OpenClaim := { program := "ytckigiemeimheaa", sum := "bb59a21875e7b273460d7387416df7304855a8e113fd2ea8cd11c49a9eeefd71", func := "tuckmill/tuckmilllaw01.LebBack", spec := "lebBack", apart := false }
def LebBackSaid : Prop := lebBackRow.holds Try.pinned (OpenSpec.ofChange lebBackSpec)

/-- ITS FALSE NEIGHBOUR: 'it returns false'. Refute it at one input. -/
def lebBackWrong : ChangeSpec := { name := "lebBack", fn := fun _ => fun
  | [d1, d2, d3, d4] => { results := [.lit (.bool false)], args := [d1, d2, d3, d4] }
  | _ => none }
def LebBackWrongFalsely : Prop := lebBackRow.holds Try.pinned (OpenSpec.ofChange lebBackWrong)

/-- 'tuckmilllaw01.LebRoom': WHATEVER THE INPUT: true; the input reads as it did. -/
def lebRoomSpec : ChangeSpec := { name := "lebRoom", fn := fun _ => fun
  | [d1, d2] => { results := [.lit (.bool true)], args := [d1, d2] }
  | _ => none }
def lebRoomRow : OpenClaim := { program := "ytckigiemeimheaa", sum := "bb59a21875e7b273460d7387416df7304855a8e113fd2ea8cd11c49a9eeefd71", func := "tuckmill/tuckmilllaw01.LebRoom", spec := "lebRoom", apart := false }
def LebRoomSaid : Prop := lebRoomRow.holds Try.pinned (OpenSpec.ofChange lebRoomSpec)

/-- ITS FALSE NEIGHBOUR: 'it returns false'. Refute it at one input. -/
def lebRoomWrong : ChangeSpec := { name := "lebRoom", fn := fun _ => fun
  | [d1, d2] => { results := [.lit (.bool false)], args := [d1, d2] }
  | _ => none }
def LebRoomWrongFalsely : Prop := lebRoomRow.holds Try.pinned (OpenSpec.ofChange lebRoomWrong)

/-- 'tuckmilllaw01.LebLong': WHATEVER THE INPUT: true; the input reads as it did. -/
def lebLongSpec : ChangeSpec := { name := "lebLong", fn := fun _ => fun
  | [d1, d2] => { results := [.lit (.bool true)], args := [d1, d2] }
  | _ => none }
def lebLongRow : OpenClaim := { program := "ytckigiemeimheaa", sum := "bb59a21875e7b273460d7387416df7304855a8e113fd2ea8cd11c49a9eeefd71", func := "tuckmill/tuckmilllaw01.LebLong", spec := "lebLong", apart := false }
def LebLongSaid : Prop := lebLongRow.holds Try.pinned (OpenSpec.ofChange lebLongSpec)

/-- ITS FALSE NEIGHBOUR: 'it returns false'. Refute it at one input. -/
def lebLongWrong : ChangeSpec := { name := "lebLong", fn := fun _ => fun
  | [d1, d2] => { results := [.lit (.bool false)], args := [d1, d2] }
  | _ => none }
def LebLongWrongFalsely : Prop := lebLongRow.holds Try.pinned (OpenSpec.ofChange lebLongWrong)

/-- 'tuckmilllaw01.LebPlaces': WHATEVER THE INPUT: true; the input reads as it did. -/
def lebPlacesSpec : ChangeSpec := { name := "lebPlaces", fn := fun _ => fun
  | [d1, d2] => { results := [.lit (.bool true)], args := [d1, d2] }
  | _ => none }
def lebPlacesRow : OpenClaim := { program := "ytckigiemeimheaa", sum := "bb59a21875e7b273460d7387416df7304855a8e113fd2ea8cd11c49a9eeefd71", func := "tuckmill/tuckmilllaw01.LebPlaces", spec := "lebPlaces", apart := false }
def LebPlacesSaid : Prop := lebPlacesRow.holds Try.pinned (OpenSpec.ofChange lebPlacesSpec)

/-- ITS FALSE NEIGHBOUR: 'it returns false'. Refute it at one input. -/
def lebPlacesWrong : ChangeSpec := { name := "lebPlaces", fn := fun _ => fun
  | [d1, d2] => { results := [.lit (.bool false)], args := [d1, d2] }
  | _ => none }
def LebPlacesWrongFalsely : Prop := lebPlacesRow.holds Try.pinned (OpenSpec.ofChange lebPlacesWrong)

/-- 'tuckmilllaw01.LebReads': WHATEVER THE INPUT: true; the input reads as it did. -/
def lebReadsSpec : ChangeSpec := { name := "lebReads", fn := fun _ => fun
  | [d1, d2] => { results := [.lit (.bool true)], args := [d1, d2] }
  | _ => none }
def lebReadsRow : OpenClaim := { program := "ytckigiemeimheaa", sum := "bb59a21875e7b273460d7387416df7304855a8e113fd2ea8cd11c49a9eeefd71", func := "tuckmill/tuckmilllaw01.LebReads", spec := "lebReads", apart := false }
def LebReadsSaid : Prop := lebReadsRow.holds Try.pinned (OpenSpec.ofChange lebReadsSpec)

/-- ITS FALSE NEIGHBOUR: 'it returns false'. Refute it at one input. -/
def lebReadsWrong : ChangeSpec := { name := "lebReads", fn := fun _ => fun
  | [d1, d2] => { results := [.lit (.bool false)], args := [d1, d2] }
  | _ => none }
def LebReadsWrongFalsely : Prop := lebReadsRow.holds Try.pinned (OpenSpec.ofChange lebReadsWrong)

/-- 'tuckmilllaw01.LebTwo': WHATEVER THE INPUT: true; the input reads as it did. -/
def lebTwoSpec : ChangeSpec := { name := "lebTwo", fn := fun _ => fun
  | [d1, d2, d3, d4] => { results := [.lit (.bool true)], args := [d1, d2, d3, d4] }
  | _ => none }
def lebTwoRow : OpenClaim := { program := "ytckigiemeimheaa", sum := "bb59a21875e7b273460d7387416df7304855a8e113fd2ea8cd11c49a9eeefd71", func := "tuckmill/tuckmilllaw01.LebTwo", spec := "lebTwo", apart := false }
def LebTwoSaid : Prop := lebTwoRow.holds Try.pinned (OpenSpec.ofChange lebTwoSpec)

/-- ITS FALSE NEIGHBOUR: 'it returns false'. Refute it at one input. -/
def lebTwoWrong : ChangeSpec := { name := "lebTwo", fn := fun _ => fun
  | [d1, d2, d3, d4] => { results := [.lit (.bool false)], args := [d1, d2, d3, d4] }
  | _ => none }
def LebTwoWrongFalsely : Prop := lebTwoRow.holds Try.pinned (OpenSpec.ofChange lebTwoWrong)

/- THE SECOND FORM. 'bulk': how many values and letters a reading holds, each counted each time it is reached (what is shared counts as often as it is met; a slice's spare places count too). A statement '..UptoSaid' is the law's where the arguments, and the package variables that the reading takes, are together of bulk at most 1048576: NARROWER than '..Said'. Prove '..Said' where nothing that the law and all that it calls make is longer than what came in: it says more and counts as full. Else prove '..UptoSaid'. A law counts once. -/
mutual
def uptoBulk {H : Type} : DataW H → Nat
  | .lit (.string bytes) => bytes.length + 1
  | .lit _ => 1
  | .nil => 1
  | .ptr d => uptoBulk d + 1
  | .slice elems spare => uptoBulkAll elems + uptoBulkAll spare + 1
  | .agg parts => uptoBulkAll parts + 1
  | .iface _ d => uptoBulk d + 1
  | .map entries => uptoBulkEntries entries + 1
  | .held _ => 1
def uptoBulkAll {H : Type} : List (DataW H) → Nat
  | [] => 0
  | d :: r => uptoBulk d + uptoBulkAll r
def uptoBulkEntries {H : Type} : List (Lit × DataW H) → Nat
  | [] => 0
  | x :: r => uptoBulkEntry x + uptoBulkEntries r
def uptoBulkEntry {H : Type} : Lit × DataW H → Nat
  | (.string bytes, d) => bytes.length + uptoBulk d + 1
  | (_, d) => uptoBulk d + 1
 end
def uptoSmall : (H : Type) → List (DataW H) → Bool := fun _ ds => decide (uptoBulkAll ds ≤ 1048576)
def OpenSpec.upto (s : _root_.Go.ChangeSpec) : _root_.Go.OpenSpec := { _root_.Go.OpenSpec.ofChange s with cond := some uptoSmall }

/-- 'tuckmilllaw01.LebWrites', WHERE WHAT IT READS IS OF BULK AT MOST 1048576: true; the input reads as it did. -/
def lebWritesUptoRow : OpenClaim := { program := "ytckigiemeimheaa", sum := "bb59a21875e7b273460d7387416df7304855a8e113fd2ea8cd11c49a9eeefd71", func := "tuckmill/tuckmilllaw01.LebWrites", spec := "lebWrites", apart := false, narrowed := true }
def LebWritesUptoSaid : Prop := lebWritesUptoRow.holds Try.pinned (OpenSpec.upto lebWritesSpec)

/-- 'tuckmilllaw01.LebSizes', WHERE WHAT IT READS IS OF BULK AT MOST 1048576: true; the input reads as it did. -/
def lebSizesUptoRow : OpenClaim := { program := "ytckigiemeimheaa", sum := "bb59a21875e7b273460d7387416df7304855a8e113fd2ea8cd11c49a9eeefd71", func := "tuckmill/tuckmilllaw01.LebSizes", spec := "lebSizes", apart := false, narrowed := true }
def LebSizesUptoSaid : Prop := lebSizesUptoRow.holds Try.pinned (OpenSpec.upto lebSizesSpec)

/-- 'tuckmilllaw01.LebBack', WHERE WHAT IT READS IS OF BULK AT MOST 1048576: true; the input reads as it did. -/
def lebBackUptoRow : OpenClaim := { program := "ytckigiemeimheaa", sum := "bb59a21875e7b273460d7387416df7304855a8e113fd2ea8cd11c49a9eeefd71", func := "tuckmill/tuckmilllaw01.LebBack", spec := "lebBack", apart := false, narrowed := true }
def LebBackUptoSaid : Prop := lebBackUptoRow.holds Try.pinned (OpenSpec.upto lebBackSpec)

/-- 'tuckmilllaw01.LebRoom', WHERE WHAT IT READS IS OF BULK AT MOST 1048576: true; the input reads as it did. -/
def lebRoomUptoRow : OpenClaim := { program := "ytckigiemeimheaa", sum := "bb59a21875e7b273460d7387416df7304855a8e113fd2ea8cd11c49a9eeefd71", func := "tuckmill/tuckmilllaw01.LebRoom", spec := "lebRoom", apart := false, narrowed := true }
def LebRoomUptoSaid : Prop := lebRoomUptoRow.holds Try.pinned (OpenSpec.upto lebRoomSpec)

/-- 'tuckmilllaw01.LebLong', WHERE WHAT IT READS IS OF BULK AT MOST 1048576: true; the input reads as it did. -/
def lebLongUptoRow : OpenClaim := { program := "ytckigiemeimheaa", sum := "bb59a21875e7b273460d7387416df7304855a8e113fd2ea8cd11c49a9eeefd71", func := "tuckmill/tuckmilllaw01.LebLong", spec := "lebLong", apart := false, narrowed := true }
def LebLongUptoSaid : Prop := lebLongUptoRow.holds Try.pinned (OpenSpec.upto lebLongSpec)

/-- 'tuckmilllaw01.LebPlaces', WHERE WHAT IT READS IS OF BULK AT MOST 1048576: true; the input reads as it did. -/
def lebPlacesUptoRow : OpenClaim := { program := "ytckigiemeimheaa", sum := "bb59a21875e7b273460d7387416df7304855a8e113fd2ea8cd11c49a9eeefd71", func := "tuckmill/tuckmilllaw01.LebPlaces", spec := "lebPlaces", apart := false, narrowed := true }
def LebPlacesUptoSaid : Prop := lebPlacesUptoRow.holds Try.pinned (OpenSpec.upto lebPlacesSpec)

/-- 'tuckmilllaw01.LebReads', WHERE WHAT IT READS IS OF BULK AT MOST 1048576: true; the input reads as it did. -/
def lebReadsUptoRow : OpenClaim := { program := "ytckigiemeimheaa", sum := "bb59a21875e7b273460d7387416df7304855a8e113fd2ea8cd11c49a9eeefd71", func := "tuckmill/tuckmilllaw01.LebReads", spec := "lebReads", apart := false, narrowed := true }
def LebReadsUptoSaid : Prop := lebReadsUptoRow.holds Try.pinned (OpenSpec.upto lebReadsSpec)

/-- 'tuckmilllaw01.LebTwo', WHERE WHAT IT READS IS OF BULK AT MOST 1048576: true; the input reads as it did. -/
def lebTwoUptoRow : OpenClaim := { program := "ytckigiemeimheaa", sum := "bb59a21875e7b273460d7387416df7304855a8e113fd2ea8cd11c49a9eeefd71", func := "tuckmill/tuckmilllaw01.LebTwo", spec := "lebTwo", apart := false, narrowed := true }
def LebTwoUptoSaid : Prop := lebTwoUptoRow.holds Try.pinned (OpenSpec.upto lebTwoSpec)

end Rows
end Go.Proofs.Ytckigiemeimheaa
