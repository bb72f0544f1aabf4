/-
  Same is equality. Plain.
-/
import Derived.Test.YtkemaonhchklmaaGreatDoorModSame
namespace Go.Proofs.YtkemaonhchklmaaGreatDoor.Mod
open Go.RowKit Go.Proofs.YtkemaonhchklmaaGreatDoor.Op
set_option linter.unusedVariables false
theorem eqS_iff (a b : ByteArray) : eqS a b = true ↔ a = b := by
  unfold eqS
  rw [beq_iff_eq, ByteArray.toList_eq, ByteArray.toList_eq]
  constructor
  · intro h
    have h2 := Array.toList_inj.1 h
    cases a; cases b
    exact congrArg ByteArray.mk h2
  · rintro rfl; rfl
theorem sameL_iff {α : Type} {eq : α → α → Bool} (h : ∀ x y, eq x y = true ↔ x = y) : ∀ l m : List α, sameL eq l m = true ↔ l = m
  | [], [] => by simp [sameL]
  | [], y :: ys => by simp [sameL]
  | x :: xs, [] => by simp [sameL]
  | x :: xs, y :: ys => by
    show (eq x y && sameL eq xs ys) = true ↔ _
    rw [Bool.and_eq_true, h, sameL_iff h xs ys, List.cons.injEq]
theorem ft_iff (x y : FT) : eq_ft x y = true ↔ x = y := by
  cases x; cases y
  simp [eq_ft, eqS_iff]
theorem mem_iff (x y : MemP) : eq_mem x y = true ↔ x = y := by
  cases x; cases y
  simp [eq_mem]
theorem glob_iff (x y : GlobP) : eq_glob x y = true ↔ x = y := by
  cases x; cases y
  simp [eq_glob, and_assoc]
theorem exp_iff (x y : ExpP) : eq_exp x y = true ↔ x = y := by
  cases x; cases y
  simp [eq_exp, eqS_iff, and_assoc]
theorem data_iff (x y : DataP) : eq_data x y = true ↔ x = y := by
  cases x; cases y
  simp [eq_data, eqS_iff]
theorem ins_iff (x y : InsL) : sameIns x y = true ↔ x = y := by
  cases x; cases y
  simp [sameIns]
theorem fn_iff (x y : FuncP) : sameFn x y = true ↔ x = y := by
  cases x; cases y
  simp [sameFn, eqS_iff, sameL_iff ins_iff]
theorem sameM_iff (a b : ModP) : sameM a b = true ↔ a = b := by
  cases a; cases b
  simp only [sameM, Bool.and_eq_true, beq_iff_eq, sameL_iff ft_iff, sameL_iff fn_iff, sameL_iff mem_iff, sameL_iff glob_iff, sameL_iff exp_iff, sameL_iff data_iff, ModP.mk.injEq]
  constructor
  · rintro ⟨h1, h2, h3, h4, h5, h6, h7⟩
    exact ⟨h2, h3, h4, h5, h6, h1, h7⟩
  · rintro ⟨h2, h3, h4, h5, h6, h1, h7⟩
    exact ⟨h1, h2, h3, h4, h5, h6, h7⟩
theorem sameM_self (a : ModP) : sameM a a = true := (sameM_iff a a).2 rfl
theorem sameM_ne {a b : ModP} (h : a ≠ b) : sameM a b = false := by
  cases e : sameM a b
  · rfl
  · exact absurd ((sameM_iff a b).1 e) h
end Go.Proofs.YtkemaonhchklmaaGreatDoor.Mod
