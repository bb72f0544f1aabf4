/-
  What the statements' listed variables hold, for chapter 10's walks. No condition beyond what the theorem names.
-/
import Derived.Test.YtafnjkeljjeamaaDoorRows
import Derived.Test.YtafnjkeljjeamaaDoorValT
import Derived.Lib.LaidTab
import Derived.ProofKit
namespace Go.Proofs.YtafnjkeljjeamaaDoor.Val
open Go.RowKit
set_option linter.unusedVariables false
theorem venv_of (W : World) (hL : laidMetH Tryd.prog Rows.valueTypesRow.laid W) (hsh : W.ShapedOpen Tryd.prog) : VEnv W := by
  have h : laidMet Tryd.prog Rows.valueTypesRow.laid W := hL
  obtain ⟨ps, ⟨g1, t1, cs1, fu1, p1, q1, hg1, ht1, hv1, hd1, ⟨g2, t2, cs2, fu2, p2, q2, hg2, ht2, hv2, hd2, ⟨g3, t3, cs3, fu3, p3, q3, hg3, ht3, hv3, hd3, _, _⟩, _⟩, _⟩, _⟩ := h
  have e3 : Tryd.prog.globalNamed "internal/strconv.uint64pow10" = some 1 := by kernel_rfl
  have k3 : (Tryd.prog.globals[1]?).map (·.type) = some 128 := by kernel_rfl
  obtain rfl := Option.some.inj (e3.symm.trans hg3)
  obtain rfl := Option.some.inj (k3.symm.trans ht3)
  refine ⟨?_, Tryd.laysM138.s1_3 W hsh⟩
  unfold Lib.TabIs
  have hd : DataW.trod (fun _ => ()) Tryd.prog W 0 (fun _ => true) false fu3 128 cs3.toList = some (Lib.tabData .u64 Lib.pow10Tab, p3) := by
    rw [hd3]
    exact congrArg (fun d => some (d, p3)) (show (Rows.laid_internal_strconv_uint64pow10 : DataW Unit) = Lib.tabData .u64 Lib.pow10Tab by kernel_rfl)
  rw [hv3, ← Lib.cells_of_tab (k := .u64) (zs := Lib.pow10Tab) Tryd.underlying128 Tryd.underlying57 (by kernel_rfl) (by kernel_rfl) hd]
end Go.Proofs.YtafnjkeljjeamaaDoor.Val
