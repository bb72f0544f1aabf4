/-
  What the law of quotients says, in plain Lean.
-/
import Derived.Test.YtafnjkeljjeamaaDoorValPlain
namespace Go.Proofs.YtafnjkeljjeamaaDoor.Val
open Go.RowKit
set_option linter.unusedVariables false
theorem aty47 : arithTy 47 ⟨1, 0⟩ ⟨1, 0⟩ = some 0 := by rfl
theorem aty42 : arithTy 42 ⟨1, 0⟩ ⟨1, 0⟩ = some 0 := by rfl
theorem aty45 : arithTy 45 ⟨1, 0⟩ ⟨1, 0⟩ = some 0 := by rfl
theorem fits_int (n : Int) : fitsB ⟨1, 0⟩ true (numVa n) = true := by rfl
theorem fits_null : fitsB ⟨1, 0⟩ true nullVa = true := by rfl
theorem arith_num (op : UInt8) (a b : Int) (h1 : arithTy op ⟨1, 0⟩ ⟨1, 0⟩ = some 0) (hb : both op a b 0 0 0 = some (a, b)) (o : Option Int) (hr : reckonP op a b = o) : arithP op (numVa a) (numVa b) ⟨1, 0⟩ ⟨1, 0⟩ = (match o with | none => (noVa, 11) | some n => (numVa n, 0)) := by
  unfold arithP
  rw [h1]
  simp only [fits_int, Bool.not_true, Bool.or_self, Bool.false_eq_true, if_false]
  rw [if_neg (by simp [numVa])]
  have h2 : both op (numVa a).n (numVa b).n 0 0 0 = some (a, b) := hb
  rw [h2]
  simp only [hr]
  cases o <;> rfl
theorem div_bad (a b : Int) (h : b = 0 ∨ (a = -9223372036854775808 ∧ b = -1)) : arithP 47 (numVa a) (numVa b) ⟨1, 0⟩ ⟨1, 0⟩ = (noVa, 11) :=
  arith_num 47 a b aty47 rfl none (by unfold reckonP; rw [if_neg (by decide), if_neg (by decide), if_neg (by decide), if_pos h])
theorem div_ok (a b : Int) (h : ¬ (b = 0 ∨ (a = -9223372036854775808 ∧ b = -1))) : arithP 47 (numVa a) (numVa b) ⟨1, 0⟩ ⟨1, 0⟩ = (numVa (a.tdiv b), 0) :=
  arith_num 47 a b aty47 rfl (some _) (by unfold reckonP; rw [if_neg (by decide), if_neg (by decide), if_neg (by decide), if_neg h])
theorem div_null : arithP 47 nullVa noVa ⟨1, 0⟩ ⟨1, 0⟩ = (nullVa, 0) := by rfl
theorem tmod_in (a b : Int) : (0 ≤ a → 0 ≤ a.tmod b ∧ a.tmod b ≤ a) ∧ (a ≤ 0 → a ≤ a.tmod b ∧ a.tmod b ≤ 0) := by
  have h1 : (a.tmod b).natAbs ≤ a.natAbs := by rw [Int.natAbs_tmod]; exact Nat.mod_le _ _
  refine ⟨fun h => ?_, fun h => ?_⟩
  · have := Int.tmod_nonneg b h
    omega
  · have h2 := Int.tmod_nonneg (a := -a) b (by omega)
    rw [Int.neg_tmod] at h2
    omega
theorem quot_mul (a b : Int) : a.tdiv b * b = a - a.tmod b := by
  have := Int.mul_tdiv_add_tmod a b
  rw [Int.mul_comm] at this
  omega
theorem quot_in {a : Int} (b : Int) (h : I64 a) : I64 (a.tdiv b * b) := by
  have h1 := tmod_in a b
  rw [quot_mul]
  unfold I64 at *
  omega
theorem scale0 {a : Int} (h : I64 a) : scaleP a 0 0 = (a, 0) := by
  unfold scaleP
  rw [if_neg (by decide)]
  have h1 : a * ten ((0 : Int) - 0).toNat = a := by
    rw [show ten ((0 : Int) - 0).toNat = 1 from rfl, Int.mul_one]
  rw [h1, if_pos (fits_iff.2 h)]
theorem quot_times (a b : Int) (h : I64 a) : arithP 42 (numVa (a.tdiv b)) (numVa b) ⟨1, 0⟩ ⟨1, 0⟩ = (numVa (a.tdiv b * b), 0) :=
  arith_num 42 _ b aty42 rfl (some _) (by unfold reckonP; rw [if_neg (by decide), if_neg (by decide), if_pos (by decide), if_pos (fits_iff.2 (quot_in b h))])
theorem quot_less (a b : Int) (h : I64 a) : arithP 45 (numVa a) (numVa (a.tdiv b * b)) ⟨1, 0⟩ ⟨1, 0⟩ = (numVa (a.tmod b), 0) := by
  have h2 : a - a.tdiv b * b = a.tmod b := by rw [quot_mul]; omega
  have h3 : I64 (a.tmod b) := by
    have h1 := tmod_in a b
    unfold I64 at *
    omega
  refine arith_num 45 _ _ aty45 ?_ (some _) ?_
  · unfold both
    rw [if_pos (by decide), scale0 h, scale0 (quot_in b h), if_pos ⟨rfl, rfl⟩]
  · unfold reckonP
    rw [if_neg (by decide), if_pos (by decide), h2, if_pos (fits_iff.2 h3)]
end Go.Proofs.YtafnjkeljjeamaaDoor.Val
