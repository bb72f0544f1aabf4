/-
  More words for chapter 10's walks of laws. No condition beyond what each theorem names.
-/
import Derived.Test.YtafnjkeljjeamaaDoorValWk
import Derived.Deep.QuietTactic
import Derived.BigQuiet
namespace Go.Proofs.YtafnjkeljjeamaaDoor.Val
open Go.RowKit Go.Maps Go.Lib
set_option linter.unusedVariables false
set_option linter.unusedSimpArgs false
theorem bdn {w w1 : World} (n : Nat) (C : Below w.heap.size w w1) : Below w.heap.size w (w1.drewN n) := C.trans ⟨rfl, rfl, rfl, Nat.le_refl _, fun _ _ => rfl⟩
end Go.Proofs.YtafnjkeljjeamaaDoor.Val
