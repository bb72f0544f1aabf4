/-
  What the statements' listed variables hold, for package op's walks. No condition beyond what the theorem names.
-/
import Derived.Test.YtlbgbpgjccbbjaaDoorRows
import Derived.Test.YtlbgbpgjccbbjaaDoorOpPlain
import Derived.Lib.LaidTab
import Derived.ProofKit
namespace Go.Proofs.YtlbgbpgjccbbjaaDoor.Op
open Go.RowKit
set_option linter.unusedVariables false
theorem opEnv_of (W : World) (hL : laidMetH Tryd.prog Rows.opRangesRow.laid W) (hsh : W.ShapedOpen Tryd.prog) : OpEnv W := by
  have h : laidMet Tryd.prog Rows.opRangesRow.laid W := hL
  obtain ⟨ps, ⟨g1, t1, cs1, fu1, p1, q1, hg1, ht1, hv1, hd1, ⟨g2, t2, cs2, fu2, p2, q2, hg2, ht2, hv2, hd2, ⟨g3, t3, cs3, fu3, p3, q3, hg3, ht3, hv3, hd3, _, _⟩, _⟩, _⟩, _⟩ := h
  have e3 : Tryd.prog.globalNamed "strings.asciiSpace" = some 0 := by kernel_rfl
  have k3 : (Tryd.prog.globals[0]?).map (·.type) = some 122 := by kernel_rfl
  obtain rfl := Option.some.inj (e3.symm.trans hg3)
  obtain rfl := Option.some.inj (k3.symm.trans ht3)
  refine ⟨Tryd.laysM138.s1_3 W hsh, ?_⟩
  unfold Lib.TabIs
  have hd : DataW.trod (fun _ => ()) Tryd.prog W 0 (fun _ => true) false fu3 122 cs3.toList = some (Lib.tabData .u8 Lib.asciiSpaceTab, p3) := by
    rw [hd3]
    exact congrArg (fun d => some (d, p3)) (show (Rows.laid_strings_asciiSpace : DataW Unit) = Lib.tabData .u8 Lib.asciiSpaceTab by kernel_rfl)
  rw [hv3, ← Lib.cells_of_tab (k := .u8) (zs := Lib.asciiSpaceTab) Tryd.underlying122 Tryd.underlying5 (by kernel_rfl) (by kernel_rfl) hd]
end Go.Proofs.YtlbgbpgjccbbjaaDoor.Op
