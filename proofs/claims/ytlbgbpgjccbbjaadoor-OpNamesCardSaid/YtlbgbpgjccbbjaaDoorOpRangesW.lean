/-
  A byte as a number. No condition beyond what the theorem names.
-/
import Derived.Test.YtlbgbpgjccbbjaaDoorOpEx
import Derived.Test.YtlbgbpgjccbbjaaDoorWf
namespace Go.Proofs.YtlbgbpgjccbbjaaDoor.Op
open Go.RowKit Go.Maps
set_option linter.unusedVariables false
theorem wf8 (a : Nat) (h : a < 256) : (Lit.int .i64 (a : Int)).wf = true := by
  simp [Lit.wf, IntKind.min, IntKind.max, IntKind.signed, IntKind.bits]
  omega
end Go.Proofs.YtlbgbpgjccbbjaaDoor.Op
