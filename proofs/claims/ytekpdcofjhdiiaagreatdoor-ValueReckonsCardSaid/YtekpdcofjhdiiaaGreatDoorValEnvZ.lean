/-
  What the statements' listed variables hold, for chapter 10's walks. No condition beyond what the theorem names.
-/
import Derived.Test.YtekpdcofjhdiiaaGreatDoorRows
import Derived.Test.YtekpdcofjhdiiaaGreatDoorValT
import Derived.Lib.LaidTab
import Derived.ProofKit
namespace Go.Proofs.YtekpdcofjhdiiaaGreatDoor.Val
open Go.RowKit
set_option linter.unusedVariables false
theorem venv_of (W : World) (hL : laidMetH Tryz.prog Rows.valueReckonsRow.laid W) (hsh : W.ShapedOpen Tryz.prog) : VEnv W := by
  have h : laidMet Tryz.prog Rows.valueReckonsRow.laid W := hL
  obtain ⟨ps, ⟨g1, t1, cs1, fu1, p1, q1, hg1, ht1, hv1, hd1, ⟨g2, t2, cs2, fu2, p2, q2, hg2, ht2, hv2, hd2, ⟨g3, t3, cs3, fu3, p3, q3, hg3, ht3, hv3, hd3, _, _⟩, _⟩, _⟩, _⟩ := h
  have e3 : Tryz.prog.globalNamed "internal/strconv.uint64pow10" = some 1 := by kernel_rfl
  have k3 : (Tryz.prog.globals[1]?).map (·.type) = some 126 := by kernel_rfl
  obtain rfl := Option.some.inj (e3.symm.trans hg3)
  obtain rfl := Option.some.inj (k3.symm.trans ht3)
  refine ⟨?_, Tryz.laysM138.s1_3 W hsh⟩
  unfold Lib.TabIs
  have hd : DataW.trod (fun _ => ()) Tryz.prog W 0 (fun _ => true) false fu3 126 cs3.toList = some (Lib.tabData .u64 Lib.pow10Tab, p3) := by
    rw [hd3]
    exact congrArg (fun d => some (d, p3)) (show (Rows.laid_internal_strconv_uint64pow10 : DataW Unit) = Lib.tabData .u64 Lib.pow10Tab by kernel_rfl)
  rw [hv3, ← Lib.cells_of_tab (k := .u64) (zs := Lib.pow10Tab) Tryz.underlying126 Tryz.underlying50 (by kernel_rfl) (by kernel_rfl) hd]
end Go.Proofs.YtekpdcofjhdiiaaGreatDoor.Val
