/-
  Signs of sums in 64 bits: what '^' and '&' of int64 say of them. Plain.
-/
import Derived.WalkKit
namespace Go.Proofs.YtekpdcofjhdiiaaGreatDoor.Val
open Go.RowKit
set_option linter.unusedVariables false
theorem wrap_bv (r : BitVec 64) : IntKind.i64.wrap (r.toNat : Int) = r.toInt := by
  rw [IntKind.wrap_i64, BitVec.toInt_eq_toNat_cond]
  have := r.isLt
  split <;> omega
def I64 (x : Int) : Prop := -9223372036854775808 ≤ x ∧ x ≤ 9223372036854775807
theorem toInt_of {x : Int} (h : I64 x) : (BitVec.ofInt 64 x).toInt = x := by
  rw [BitVec.toInt_ofInt]
  unfold I64 at h
  simp only [Int.bmod]
  omega
theorem bits_i64 (f : BitVec 64 → BitVec 64 → BitVec 64) (x y : Int) : I64 (IntKind.i64.wrap ((f (BitVec.ofInt 64 x) (BitVec.ofInt 64 y)).toNat : Int)) := by
  rw [wrap_bv]
  have h1 := BitVec.toInt_lt (x := f (BitVec.ofInt 64 x) (BitVec.ofInt 64 y))
  have h2 := BitVec.le_toInt (x := f (BitVec.ofInt 64 x) (BitVec.ofInt 64 y))
  unfold I64
  omega
theorem xor_range (x y : Int) : I64 (bits .xor .i64 x y) := bits_i64 (fun a b => a ^^^ b) x y
theorem msb_of {x : Int} (h : I64 x) : (BitVec.ofInt 64 x).msb = decide (x < 0) := by
  rw [BitVec.msb_eq_toInt, toInt_of h]
theorem xor_neg {x y : Int} (hx : I64 x) (hy : I64 y) : decide (bits .xor .i64 x y < 0) = (decide (x < 0) ^^ decide (y < 0)) := by
  show decide (IntKind.i64.wrap ((BitVec.ofInt 64 x ^^^ BitVec.ofInt 64 y).toNat : Int) < 0) = _
  rw [wrap_bv, ← BitVec.msb_eq_toInt, BitVec.msb_xor, msb_of hx, msb_of hy]
theorem and_neg {x y : Int} (hx : I64 x) (hy : I64 y) : decide (bits .and .i64 x y < 0) = (decide (x < 0) && decide (y < 0)) := by
  show decide (IntKind.i64.wrap ((BitVec.ofInt 64 x &&& BitVec.ofInt 64 y).toNat : Int) < 0) = _
  rw [wrap_bv, ← BitVec.msb_eq_toInt, BitVec.msb_and, msb_of hx, msb_of hy]
def fits (x : Int) : Bool := decide (-9223372036854775808 ≤ x) && decide (x ≤ 9223372036854775807)
theorem fits_iff {x : Int} : fits x = true ↔ I64 x := by unfold fits I64; simp
theorem wrap_range (x : Int) : I64 (wrap64 x) := by unfold I64 wrap64; omega
theorem wrap_fits {x : Int} (h : fits x = true) : wrap64 x = x := by
  have := fits_iff.1 h
  unfold I64 at this
  unfold wrap64; omega
/-- the program's look at a sum -/
theorem add_look {a b : Int} (ha : I64 a) (hb : I64 b) : decide (0 ≤ bits .and .i64 (bits .xor .i64 a (wrap64 (a + b))) (bits .xor .i64 b (wrap64 (a + b)))) = fits (a + b) := by
  have h1 := and_neg (xor_range a (wrap64 (a + b))) (xor_range b (wrap64 (a + b)))
  rw [xor_neg ha (wrap_range _), xor_neg hb (wrap_range _)] at h1
  rw [show decide (0 ≤ bits .and .i64 (bits .xor .i64 a (wrap64 (a + b))) (bits .xor .i64 b (wrap64 (a + b)))) = !decide (bits .and .i64 (bits .xor .i64 a (wrap64 (a + b))) (bits .xor .i64 b (wrap64 (a + b))) < 0) by rw [← decide_not]; simp, h1]
  rw [Bool.eq_iff_iff, fits_iff]
  unfold I64 at *
  have hw : wrap64 (a + b) = (a + b + 9223372036854775808) % 18446744073709551616 - 9223372036854775808 := by unfold wrap64; rfl
  obtain ⟨s, hs⟩ : ∃ s, wrap64 (a + b) = s := ⟨_, rfl⟩
  rw [hs] at hw ⊢
  by_cases h2 : a < 0 <;> by_cases h3 : b < 0 <;> by_cases h4 : s < 0 <;> simp [h2, h3, h4] <;> omega
theorem sub_look {a b : Int} (ha : I64 a) (hb : I64 b) : decide (0 ≤ bits .and .i64 (bits .xor .i64 a b) (bits .xor .i64 a (wrap64 (a - b)))) = fits (a - b) := by
  have h1 := and_neg (xor_range a b) (xor_range a (wrap64 (a - b)))
  rw [xor_neg ha hb, xor_neg ha (wrap_range _)] at h1
  rw [show decide (0 ≤ bits .and .i64 (bits .xor .i64 a b) (bits .xor .i64 a (wrap64 (a - b)))) = !decide (bits .and .i64 (bits .xor .i64 a b) (bits .xor .i64 a (wrap64 (a - b))) < 0) by rw [← decide_not]; simp, h1]
  rw [Bool.eq_iff_iff, fits_iff]
  unfold I64 at *
  have hw : wrap64 (a - b) = (a - b + 9223372036854775808) % 18446744073709551616 - 9223372036854775808 := by unfold wrap64; rfl
  obtain ⟨s, hs⟩ : ∃ s, wrap64 (a - b) = s := ⟨_, rfl⟩
  rw [hs] at hw ⊢
  by_cases h2 : a < 0 <;> by_cases h3 : b < 0 <;> by_cases h4 : s < 0 <;> simp [h2, h3, h4] <;> omega
/-- the reference's -/
theorem radd_look {a b : Int} (ha : I64 a) (hb : I64 b) : (decide (0 ≤ b) == decide (a ≤ wrap64 (a + b))) = fits (a + b) := by
  rw [Bool.eq_iff_iff, fits_iff]
  unfold I64 at *
  have hw : wrap64 (a + b) = (a + b + 9223372036854775808) % 18446744073709551616 - 9223372036854775808 := by unfold wrap64; rfl
  obtain ⟨s, hs⟩ : ∃ s, wrap64 (a + b) = s := ⟨_, rfl⟩
  rw [hs] at hw ⊢
  by_cases h3 : 0 ≤ b <;> by_cases h4 : a ≤ s <;> simp [h3, h4] <;> omega
theorem rsub_look {a b : Int} (ha : I64 a) (hb : I64 b) : (decide (b ≤ 0) == decide (a ≤ wrap64 (a - b))) = fits (a - b) := by
  rw [Bool.eq_iff_iff, fits_iff]
  unfold I64 at *
  have hw : wrap64 (a - b) = (a - b + 9223372036854775808) % 18446744073709551616 - 9223372036854775808 := by unfold wrap64; rfl
  obtain ⟨s, hs⟩ : ∃ s, wrap64 (a - b) = s := ⟨_, rfl⟩
  rw [hs] at hw ⊢
  by_cases h3 : b ≤ 0 <;> by_cases h4 : a ≤ s <;> simp [h3, h4] <;> omega
/-- the reference's look at a product: p / b == a -/
theorem prod_look {a b : Int} (ha : I64 a) (hb : I64 b) (h0 : a ≠ 0) (h1 : b ≠ 0) (hs : ¬ (a = -1 ∧ b = -9223372036854775808)) (hs2 : ¬ (b = -1 ∧ a = -9223372036854775808)) : ((wrap64 (a * b)).tdiv b != a) = !fits (a * b) := by
  have hw : wrap64 (a * b) = (a * b + 9223372036854775808) % 18446744073709551616 - 9223372036854775808 := by unfold wrap64; rfl
  cases hf : fits (a * b) with
  | true =>
    rw [wrap_fits hf, Int.mul_tdiv_cancel _ h1]
    simp
  | false =>
    have hn : ¬ I64 (a * b) := fun h => by rw [fits_iff.2 h] at hf; cases hf
    show ((wrap64 (a * b)).tdiv b != a) = true
    rw [bne_iff_ne]
    intro h
    apply hn
    have h2 := Int.mul_tdiv_add_tmod (wrap64 (a * b)) b
    rw [h, Int.mul_comm b a] at h2
    have h3 : ((wrap64 (a * b)).tmod b).natAbs < b.natAbs := by
      rw [Int.natAbs_tmod]
      exact Nat.mod_lt _ (by omega)
    obtain ⟨r, hr⟩ : ∃ r, (wrap64 (a * b)).tmod b = r := ⟨_, rfl⟩
    obtain ⟨p, hp⟩ : ∃ p, wrap64 (a * b) = p := ⟨_, rfl⟩
    obtain ⟨m, hm⟩ : ∃ m, a * b = m := ⟨_, rfl⟩
    rw [hr] at h2 h3
    rw [hp] at h2 hw
    rw [hm] at h2 hw ⊢
    unfold I64 at *
    omega
end Go.Proofs.YtekpdcofjhdiiaaGreatDoor.Val
