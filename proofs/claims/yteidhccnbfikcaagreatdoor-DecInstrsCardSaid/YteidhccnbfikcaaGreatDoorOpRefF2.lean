/-
  What the reference's Float of chapter 3 answers. No condition beyond what each theorem names.
-/
import Derived.Test.YteidhccnbfikcaaGreatDoorOpFloat
import Derived.Test.YteidhccnbfikcaaGreatDoorOpRf
namespace Go.Proofs.YteidhccnbfikcaaGreatDoor.Op
open Go.RowKit Go.Maps
set_option linter.unusedVariables false
set_option maxRecDepth 100000 in
set_option maxHeartbeats 1000000 in
theorem rfloat_any (c : Int) (w : World) :
    Calls Tryz.prog 162 #[.int .i64 c] w fun e w' => e = .returned (.bool (floatB c)) ∧ w = w' := by
  go_enter Tryz.func162, Tryz.ntmps162
  go_wp2_with fail
  all_goals
    go_ret
    refine ⟨?_, rfl⟩
    refine congrArg (fun b => Ending.returned (.bool b)) ?_
    rw [Bool.eq_iff_iff]
    simp [floatB, floatR]
    try omega
end Go.Proofs.YteidhccnbfikcaaGreatDoor.Op
