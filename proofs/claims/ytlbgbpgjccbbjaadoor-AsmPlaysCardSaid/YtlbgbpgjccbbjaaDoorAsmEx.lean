/-
  The chapter's examples of package asm. No condition beyond what each theorem names.
-/
import Derived.Test.YtlbgbpgjccbbjaaDoorAsmK
namespace Go.Proofs.YtlbgbpgjccbbjaaDoor.Asm
open Go.RowKit Go.Maps Go.Proofs.YtlbgbpgjccbbjaaDoor.Op
set_option linter.unusedVariables false
def noK : Nat → Prop := fun _ => False
set_option maxRecDepth 100000 in
set_option maxHeartbeats 4000000 in
theorem examples17 (w : World) (hE : OpEnv w) : Calls Tryd.prog 22 #[] w fun e w' => e = .returned (.bool true) ∧ Below w.heap.size w w' := by
  have HE := Lib.hid (Env.start hE)
  clear hE
  go_enter Tryd.func22, Tryd.ntmps22
  go_wp2_with fail
  refine (k_new ⟨#[127]⟩ w noK (fun b hb => hb.elim) (by decide)).mono ?_
  rintro e w1 ⟨bb, rfl, hlo, hA, c1⟩
  have HA := Lib.hid (hA _ HE.out)
  have HB := Lib.hid c1
  clear hA c1
  go_wp2_with fail
  refine (new_bad ⟨#[1]⟩ w1 (by unfold maxLen; decide) (by decide)).mono ?_
  rintro e w2 ⟨rfl, c2⟩
  have HB := Lib.hid (HB.out.trans (c2.mono HB.out.size))
  have HA := Lib.hid (HA.out.later c2)
  clear c2
  go_wp2_with fail
  refine (k_local HA.out (by decide) 126 1 0 ⟨1, [126], [], []⟩ (by rfl)).mono ?_
  rintro e w3 ⟨rfl, hA, hS⟩
  have HA := Lib.hid hA
  have HB := Lib.hid (HB.out.trans hS.1)
  clear hA hS
  go_wp2_with fail
  refine (k_open HA.out (by decide) ⟨#[108, 111, 111, 112]⟩ ⟨#[108]⟩ 64 (by unfold maxLen; decide) 0 ⟨1, [126], [⟨3, 64, 0⟩], [⟨3, ⟨#[108]⟩⟩]⟩ (by kernel_rfl)).mono ?_
  rintro e w3 ⟨rfl, hA, hS⟩
  have HA := Lib.hid hA
  have HB := Lib.hid (HB.out.trans hS.1)
  clear hA hS
  go_wp2_with fail
  refine (k_go HA.out (by decide) ⟨#[98, 114]⟩ ⟨#[120]⟩ (by unfold maxLen; decide) 13 ⟨1, [126], [⟨3, 64, 0⟩], [⟨3, ⟨#[108]⟩⟩]⟩ (by kernel_rfl)).mono ?_
  rintro e w3 ⟨rfl, hA, hS⟩
  have HA := Lib.hid hA
  have HB := Lib.hid (HB.out.trans hS.1)
  clear hA hS
  go_wp2_with fail
  refine (k_go HA.out (by decide) ⟨#[98, 114]⟩ ⟨#[108]⟩ (by unfold maxLen; decide) 0 ⟨1, [126], [⟨3, 64, 0⟩, ⟨12, 0, 0⟩], [⟨3, ⟨#[108]⟩⟩]⟩ (by kernel_rfl)).mono ?_
  rintro e w3 ⟨rfl, hA, hS⟩
  have HA := Lib.hid hA
  have HB := Lib.hid (HB.out.trans hS.1)
  clear hA hS
  go_wp2_with fail
  refine (k_close HA.out (by decide) 0 ⟨1, [126], [⟨3, 64, 0⟩, ⟨12, 0, 0⟩, ⟨11, 0, 0⟩], []⟩ (by kernel_rfl)).mono ?_
  rintro e w3 ⟨rfl, hA, hS⟩
  have HA := Lib.hid hA
  have HB := Lib.hid (HB.out.trans hS.1)
  clear hA hS
  go_wp2_with fail
  refine (k_done HA.out (by decide) 0 rfl (by decide) (by decide)).mono ?_
  rintro e w8 ⟨g, cap, rfl, ho, hA, c8⟩
  have HB := Lib.hid (HB.out.trans (c8.mono HB.out.size))
  have HA := Lib.hid (hA.alloc (.cells #[.int .i64 0, .string ⟨#[126]⟩, .slice (some ⟨g, 0, none⟩) 4 cap] 51))
  have HB := Lib.hid (HB.out.alloc HB.out.size (.cells #[.int .i64 0, .string ⟨#[126]⟩, .slice (some ⟨g, 0, none⟩) 4 cap] 51))
  clear hA ho c8
  go_wp2_with fail
  refine (k_op HA.out (by decide) ⟨#[98, 114]⟩ 0 0 (by unfold maxLen; decide) 1 ⟨1, [126], [⟨3, 64, 0⟩, ⟨12, 0, 0⟩, ⟨11, 0, 0⟩], []⟩ (by kernel_rfl)).mono ?_
  rintro e w3 ⟨rfl, hA, hS⟩
  have HA := Lib.hid hA
  have HB := Lib.hid (HB.out.trans hS.1)
  clear hA hS
  go_wp2_with fail
  refine (k_op HA.out (by decide) ⟨#[105, 51, 50, 46, 99, 111, 110, 115, 116]⟩ 5 0 (by unfold maxLen; decide) 0 ⟨1, [126], [⟨3, 64, 0⟩, ⟨12, 0, 0⟩, ⟨11, 0, 0⟩, ⟨65, 5, 0⟩], []⟩ (by kernel_rfl)).mono ?_
  rintro e w3 ⟨rfl, hA, hS⟩
  have HA := Lib.hid hA
  have HB := Lib.hid (HB.out.trans hS.1)
  clear hA hS
  go_wp2_with fail
  go_ret
  exact ⟨rfl, HB.out⟩
end Go.Proofs.YtlbgbpgjccbbjaaDoor.Asm
