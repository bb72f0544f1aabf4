/-
  What oneA is, code by code. No condition beyond what each theorem names.
-/
import Derived.Test.YtebikmnegemggaaDoorNumOnesFns
namespace Go.Proofs.YtebikmnegemggaaDoor.Num
open Go.RowKit
set_option linter.unusedVariables false
theorem oneA_69 (a : Nat) : oneA 69 a = truthA ((((a % 4294967296 : Nat) : Int)) == 0) := by unfold oneA; rw [if_pos rfl]
theorem oneA_80 (a : Nat) : oneA 80 a = truthA ((a : Int) == 0) := by unfold oneA; rw [if_neg (by decide), if_pos rfl]
theorem oneA_103 (a : Nat) : oneA 103 a = ((32 - Lib.bitLen (a % 4294967296) : Nat) : Int) := by unfold oneA; rw [if_neg (by decide), if_neg (by decide), if_pos rfl]
theorem oneA_104 (a : Nat) : oneA 104 a = (Lib.ctz 32 (a % 4294967296) : Int) := by unfold oneA; rw [if_neg (by decide), if_neg (by decide), if_neg (by decide), if_pos rfl]
theorem oneA_105 (a : Nat) : oneA 105 a = ((pc 32 (a % 4294967296) : Nat) : Int) := by unfold oneA; rw [if_neg (by decide), if_neg (by decide), if_neg (by decide), if_neg (by decide), if_pos rfl]
theorem oneA_121 (a : Nat) : oneA 121 a = ((64 - Lib.bitLen a : Nat) : Int) := by unfold oneA; rw [if_neg (by decide), if_neg (by decide), if_neg (by decide), if_neg (by decide), if_neg (by decide), if_pos rfl]
theorem oneA_122 (a : Nat) : oneA 122 a = (Lib.ctz 64 a : Int) := by unfold oneA; rw [if_neg (by decide), if_neg (by decide), if_neg (by decide), if_neg (by decide), if_neg (by decide), if_neg (by decide), if_pos rfl]
theorem oneA_123 (a : Nat) : oneA 123 a = ((pc 64 a : Nat) : Int) := by unfold oneA; rw [if_neg (by decide), if_neg (by decide), if_neg (by decide), if_neg (by decide), if_neg (by decide), if_neg (by decide), if_neg (by decide), if_pos rfl]
theorem oneA_167 (a : Nat) : oneA 167 a = ((a % 4294967296 : Nat) : Int) := by unfold oneA; rw [if_neg (by decide), if_neg (by decide), if_neg (by decide), if_neg (by decide), if_neg (by decide), if_neg (by decide), if_neg (by decide), if_neg (by decide), if_pos (.inl rfl)]
theorem oneA_173 (a : Nat) : oneA 173 a = ((a % 4294967296 : Nat) : Int) := by unfold oneA; rw [if_neg (by decide), if_neg (by decide), if_neg (by decide), if_neg (by decide), if_neg (by decide), if_neg (by decide), if_neg (by decide), if_neg (by decide), if_pos (.inr rfl)]
theorem oneA_172 (a : Nat) : oneA 172 a = IntKind.u64.wrap (wrap32 (((a % 4294967296 : Nat) : Int))) := by unfold oneA; rw [if_neg (by decide), if_neg (by decide), if_neg (by decide), if_neg (by decide), if_neg (by decide), if_neg (by decide), if_neg (by decide), if_neg (by decide), if_neg (by decide)]
theorem w32b (c : Int) : -2147483648 ≤ wrap32 c ∧ wrap32 c < 2147483648 := by unfold wrap32; omega
theorem wr3 (z : Int) (h1 : -2147483648 ≤ z) (h2 : z < 2147483648) : wrap64 (IntKind.u64.wrap z) = z := by
  rw [IntKind.wrap_u64]
  unfold wrap64
  omega
theorem wr2 (z : Int) (h1 : -2147483648 ≤ z) (h2 : z < 2147483648) : wrap64 z = z := by
  unfold wrap64
  omega
end Go.Proofs.YtebikmnegemggaaDoor.Num
