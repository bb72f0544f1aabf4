/-
  Alignments: which are valid. Plain.
-/
import Derived.Test.YthcjgdmmpopplaaGreatDoorVldNestW
namespace Go.Proofs.YthcjgdmmpopplaaGreatDoor.Vld
open Go.RowKit Go.Proofs.YthcjgdmmpopplaaGreatDoor.Op Go.Proofs.YthcjgdmmpopplaaGreatDoor.Mod Go.Proofs.YthcjgdmmpopplaaGreatDoor.Pg
set_option linter.unusedVariables false
def opsAl : List Int := [40, 41, 44, 45, 46, 47, 48, 49, 50, 51, 52, 53]
def mostAl : List Int := [2, 3, 0, 0, 1, 1, 0, 0, 1, 1, 2, 2]
def alignC (o a : Int) : List Ins := [⟨65, 0, 0⟩, ⟨o, a, 0⟩, ⟨26, 0, 0⟩, ⟨11, 0, 0⟩]
theorem align_all : ((List.range 12).all fun k => (List.range 5).all fun a => funcE (mod1 [⟨1, 1⟩]) (fn0 (alignC (opsAl.getD k 0) (a : Int))) == (if (a : Int) ≤ mostAl.getD k 0 then 0 else 4) && funcE (mod1 []) (fn0 (alignC (opsAl.getD k 0) (a : Int))) == 4) = true := by kernel_rfl
theorem law_align (k a : Nat) (hk : k < 12) (ha : a < 5) : funcE (mod1 [⟨1, 1⟩]) (fn0 (alignC (opsAl.getD k 0) (a : Int))) = (if (a : Int) ≤ mostAl.getD k 0 then 0 else 4) ∧ funcE (mod1 []) (fn0 (alignC (opsAl.getD k 0) (a : Int))) = 4 := by
  have h := List.all_eq_true.1 (List.all_eq_true.1 align_all k (List.mem_range.2 hk)) a (List.mem_range.2 ha)
  rw [Bool.and_eq_true, beq_iff_eq, beq_iff_eq] at h
  exact h
end Go.Proofs.YthcjgdmmpopplaaGreatDoor.Vld
