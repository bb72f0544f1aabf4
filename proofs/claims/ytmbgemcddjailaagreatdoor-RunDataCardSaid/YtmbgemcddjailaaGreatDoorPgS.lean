/-
  A program's steps in memory, its module. No condition beyond what each theorem names.
-/
import Derived.Test.YtmbgemcddjailaaGreatDoorPgDefs
namespace Go.Proofs.YtmbgemcddjailaaGreatDoor.Pg
open Go.RowKit Go.Maps Go.Proofs.YtmbgemcddjailaaGreatDoor.Op Go.Proofs.YtmbgemcddjailaaGreatDoor.Mod
set_option linter.unusedVariables false
def Step.cells (t : Step) : List Value := [.int .u8 (t.kind : Int), .int .i64 t.a, .int .i64 t.b, .int .u8 (t.op : Int)]
def isStep (_ : World) (r : List Value) (t : Step) : Prop := r = t.cells ∧ t.kind < 256 ∧ t.op < 256
/-- steps in memory -/
def StepsAt : World → Value → List Step → Prop := ListAt 4 isStep
def toL (x : Ins) : InsL := ⟨x.op, x.a, x.b, []⟩
/-- the module of a code -/
def modOf (code : List Ins) : ModP := ⟨[⟨⟨#[126, 127]⟩, ⟨#[126]⟩⟩], [⟨0, ⟨#[127, 126]⟩, code.map toL⟩], [⟨1, 2⟩], [⟨127, true, 5⟩, ⟨126, true, -5⟩], [⟨⟨#[102]⟩, 0, 0⟩], -1, [⟨100, ⟨#[115, 111, 109, 101, 32, 98, 121, 116, 101, 115]⟩⟩]⟩
end Go.Proofs.YtmbgemcddjailaaGreatDoor.Pg
