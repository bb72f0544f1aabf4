/-
  What the statements' listed variables hold, for chapter 9's walks. No condition beyond what each theorem names.
-/
import Derived.Test.YtmbgemcddjailaaGreatDoorRows
import Derived.Test.YtmbgemcddjailaaGreatDoorModC
import Derived.Lib.LaidTab
import Derived.Lib.LaidU8T
import Derived.PinnedBridge
import Derived.ProofKit
import Derived.Deep.DeepLaidRun
namespace Go.Proofs.YtmbgemcddjailaaGreatDoor.Mod
open Go.RowKit Go.Lib
set_option linter.unusedVariables false
theorem tab_of {W : World} {n : String} {g : Nat} {t e : TypeId} {m : Nat} {k : IntKind} {zs : List Int} (h : VarReads Tryz.prog W n (tabData k zs)) (hg : Tryz.prog.globalNamed n = some g) (hy : (Tryz.prog.globals[g]?).map (·.type) = some t)
    (ht : Tryz.prog.underlying t = some (.array m e)) (he : Tryz.prog.underlying e = some (.int k)) (hce : Tryz.prog.cellsOf e = 1) (hct : Tryz.prog.cellsOf t = m) : Lib.TabIs Tryz.prog W n k zs := by
  obtain ⟨g2, t2, cs, fuel, p, hg2, hty, hvar, hd⟩ := h
  obtain rfl := Option.some.inj (hg.symm.trans hg2)
  obtain rfl := Option.some.inj (hy.symm.trans hty)
  unfold Lib.TabIs
  rw [hvar, ← cells_of_tab ht he hce hct hd]
theorem menv_of (W : World) (hL : laidMetH Tryz.prog Rows.runGlobalsRow.laid W) (hsh : W.ShapedOpen Tryz.prog) : MEnv W := by
  have h : laidMet Tryz.prog Rows.runGlobalsRow.laid W := hL
  have r4 : VarReads Tryz.prog W "unicode/utf8.acceptRanges" acceptData := by
    rw [← (show (Rows.laid_unicode_utf8_acceptRanges : DataW Unit) = acceptData by kernel_rfl)]
    exact Lib.laidMet.reads h (.tail _ (.tail _ (.head _)))
  have r6 : VarReads Tryz.prog W "strings.asciiSpace" (tabData .u8 Lib.asciiSpaceTab) := by
    rw [← (show (Rows.laid_strings_asciiSpace : DataW Unit) = Lib.tabData .u8 Lib.asciiSpaceTab by kernel_rfl)]
    exact Lib.laidMet.reads h (.tail _ (.tail _ (.tail _ (.tail _ (.head _)))))
  have r7 : VarReads Tryz.prog W "unicode/utf8.first" firstData := by
    rw [← Pinned.utf8First_eq]
    exact Lib.laidMet.reads h (.tail _ (.tail _ (.tail _ (.tail _ (.tail _ (.head _))))))
  refine ⟨⟨Tryz.laysM138.s1_3 W hsh, ?_⟩, ?_⟩
  · exact tab_of r6 (g := 4) (t := 216) (e := 5) (m := 256) (by kernel_rfl) (by kernel_rfl) Tryz.underlying216 Tryz.underlying5 (by kernel_rfl) (by kernel_rfl)
  · exact utf8Tabs_of_readsT (U8Types.of196 Tryz.laysValid) ⟨by kernel_rfl, by kernel_rfl, by kernel_rfl, by kernel_rfl, by kernel_rfl, by kernel_rfl, by kernel_rfl⟩ r7 r4
end Go.Proofs.YtmbgemcddjailaaGreatDoor.Mod
