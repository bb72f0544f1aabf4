/-
  What package op's plain answers; what its walks want of the library's variables. No condition beyond what each theorem names.
-/
import Derived.Test.YtmbgemcddjailaaGreatDoorShelf
import Derived.Test.YtmbgemcddjailaaGreatDoorProg
import Derived.Test.YtmbgemcddjailaaGreatDoorOpDefs
import Derived.WalkKit
import Derived.WalkSpells
import Derived.WalkLawsBesides
import Derived.WalkSmall
import Derived.IntWalk
import Derived.Lib.Hide
import Derived.Lib.ReplaceLaws
namespace Go.Proofs.YtmbgemcddjailaaGreatDoor.Op
open Go.RowKit
set_option linter.unusedVariables false
/-- what the walks of package op want of the library's variables -/
def OpEnv (w : World) : Prop := (∃ m, w.cell? ⟨6, 0, none⟩ = some (.int .i64 m)) ∧ Lib.TabIs Tryz.prog w "strings.asciiSpace" .u8 Lib.asciiSpaceTab
set_option maxRecDepth 100000 in
set_option maxHeartbeats 1000000 in
theorem plain_any (w : World) : Calls Tryz.prog 172 #[] w (MadeGrps 250 w plainG) := by
  go_enter Tryz.func172, Tryz.ntmps172
  go_wp2_with fail
  go_ret
  refine ⟨_, rfl, ⟨rfl, .inr ⟨w.heap.size, 24, _, rfl, Nat.le_refl _, heap_alloc_new _ _, Nat.le_refl _, by decide, rfl, rfl⟩⟩, (Below.refl _ _).alloc (Nat.le_refl _) _, _, _, rfl⟩
end Go.Proofs.YtmbgemcddjailaaGreatDoor.Op
