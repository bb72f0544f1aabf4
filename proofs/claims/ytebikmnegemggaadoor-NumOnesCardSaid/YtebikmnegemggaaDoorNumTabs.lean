/-
  What the statements' listed variables hold: the library's two tables. No condition beyond what the theorem names.
-/
import Derived.Test.YtebikmnegemggaaDoorRows
import Derived.Test.YtebikmnegemggaaDoorNumOneV
import Derived.Lib.LaidTab
import Derived.ProofKit
namespace Go.Proofs.YtebikmnegemggaaDoor.Num
open Go.RowKit
set_option linter.unusedVariables false

theorem tabAt_of {W : World} {name : String} {tab : List Nat} {g : Nat} (h : Lib.TabIs Tryd.prog W name .u8 (tab.map fun n : Nat => (n : Int))) (hg : Tryd.prog.globalNamed name = some g) : TabAt g tab W := by
  intro j hj
  have h1 := h.cell hg j (by simpa using hj)
  rw [h1]
  simp [List.getD, hj]
theorem tabs_of (W : World) (hL : laidMetH Tryd.prog Rows.numBitsRow.laid W) : Tabs W := by
  have h : laidMet Tryd.prog Rows.numBitsRow.laid W := hL
  obtain ⟨ps, ⟨g1, t1, cs1, fu1, p1, q1, hg1, ht1, hv1, hd1, ⟨g2, t2, cs2, fu2, p2, q2, hg2, ht2, hv2, hd2, _, _⟩, _⟩, _⟩ := h
  have e1 : Tryd.prog.globalNamed "math/bits.deBruijn32tab" = some 0 := by kernel_rfl
  have e2 : Tryd.prog.globalNamed "math/bits.deBruijn64tab" = some 1 := by kernel_rfl
  have k1 : (Tryd.prog.globals[0]?).map (·.type) = some 75 := by kernel_rfl
  have k2 : (Tryd.prog.globals[1]?).map (·.type) = some 77 := by kernel_rfl
  obtain rfl := Option.some.inj (e1.symm.trans hg1)
  obtain rfl := Option.some.inj (e2.symm.trans hg2)
  obtain rfl := Option.some.inj (k1.symm.trans ht1)
  obtain rfl := Option.some.inj (k2.symm.trans ht2)
  refine ⟨tabAt_of (name := "math/bits.deBruijn32tab") ?_ e1, tabAt_of (name := "math/bits.deBruijn64tab") ?_ e2⟩
  · unfold Lib.TabIs
    rw [hv1, ← Lib.cells_of_tab (k := .u8) (zs := Lib.deBruijn32tab.map fun n : Nat => (n : Int)) Tryd.underlying75 Tryd.underlying5 (by kernel_rfl) (by kernel_rfl) hd1]
  · unfold Lib.TabIs
    rw [hv2, ← Lib.cells_of_tab (k := .u8) (zs := Lib.deBruijn64tab.map fun n : Nat => (n : Int)) Tryd.underlying77 Tryd.underlying5 (by kernel_rfl) (by kernel_rfl) hd2]
end Go.Proofs.YtebikmnegemggaaDoor.Num
