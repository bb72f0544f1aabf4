/-
  Chapter 10 in plain Lean: types, values, numbers that are scaled, reckoned, held against one another. Plain.
-/
import Derived.Test.YtekpdcofjhdiiaaGreatDoorValSign
namespace Go.Proofs.YtekpdcofjhdiiaaGreatDoor.Val
open Go.RowKit
set_option linter.unusedVariables false
structure Ty where
  kind : Int
  scale : Int
structure Va where
  null : Bool
  n : Int
  s : ByteArray
def Ty.v (t : Ty) : Value := .agg #[.int .i64 t.kind, .int .i64 t.scale]
def Va.v (x : Va) : Value := .agg #[.bool x.null, .int .i64 x.n, .string x.s]
def tyB (t : Ty) : Bool := ((t.kind == 1 || t.kind == 3 || t.kind == 4) && t.scale == 0) || (t.kind == 2 && decide (1 ≤ t.scale) && decide (t.scale ≤ 9))
def fitsB (t : Ty) (null : Bool) (x : Va) : Bool := tyB t && (if x.null then null && x.n == 0 && x.s.size == 0 else if t.kind == 3 then x.n == 0 && decide (x.s.size ≤ 200) else x.s.size == 0 && (t.kind != 4 || x.n == 0 || x.n == 1))
def numB (t : Ty) : Bool := tyB t && (t.kind == 1 || t.kind == 2)
/-- 10 to a power -/
def ten (k : Nat) : Int := 10 ^ k
def scaleP (n fr to : Int) : Int × Int := if fr < 0 ∨ to < fr ∨ 9 < to then (0, 1) else if fits (n * ten (to - fr).toNat) then (n * ten (to - fr).toNat, 0) else (0, 11)
def typed (s : Int) : Ty := if s = 0 then ⟨1, 0⟩ else ⟨2, s⟩
def arithTy (op : UInt8) (a b : Ty) : Option Int := if numB a && numB b then (if op == 43 || op == 45 then some (max a.scale b.scale) else if op == 42 then (if a.scale + b.scale ≤ 9 then some (a.scale + b.scale) else none) else if op == 47 then (if b.scale == 0 then some a.scale else none) else none) else none
def tyOut : Option Int → Ty × Bool
  | some s => (typed s, true)
  | none => (⟨0, 0⟩, false)
def reckonP (op : UInt8) (a b : Int) : Option Int := if op == 43 then (if fits (a + b) then some (a + b) else none) else if op == 45 then (if fits (a - b) then some (a - b) else none) else if op == 42 then (if fits (a * b) then some (a * b) else none) else (if b = 0 ∨ (a = -9223372036854775808 ∧ b = -1) then none else some (a.tdiv b))
def noVa : Va := ⟨false, 0, ⟨#[]⟩⟩
def nullVa : Va := ⟨true, 0, ⟨#[]⟩⟩
def numVa (n : Int) : Va := ⟨false, n, ⟨#[]⟩⟩
/-- two numbers of the scales of a type, in the one of what is reckoned -/
def both (op : UInt8) (x y sa sb s : Int) : Option (Int × Int) := if op == 43 || op == 45 then (if (scaleP x sa s).2 = 0 ∧ (scaleP y sb s).2 = 0 then some ((scaleP x sa s).1, (scaleP y sb s).1) else none) else some (x, y)
def arithP (op : UInt8) (a b : Va) (ta tb : Ty) : Va × Int := match arithTy op ta tb with
  | none => (noVa, 4)
  | some s => if !fitsB ta true a || !fitsB tb true b then (noVa, 1) else if a.null || b.null then (nullVa, 0) else match both op a.n b.n ta.scale tb.scale s with
    | none => (noVa, 11)
    | some (x, y) => match reckonP op x y with
      | none => (noVa, 11)
      | some n => (numVa n, 0)
def cmpI (x y : Int) : Int := if x < y then -1 else if x = y then 0 else 1
theorem cmpI_turn (x y : Int) : cmpI x y = -cmpI y x := by
  unfold cmpI
  by_cases h1 : x < y
  · rw [if_pos h1, if_neg (by omega), if_neg (by omega)]
  · by_cases h2 : x = y
    · rw [if_neg h1, if_pos h2, if_neg (by omega), if_pos h2.symm]; rfl
    · rw [if_neg h1, if_neg h2, if_pos (by omega)]; rfl
def truthN (a : Va) : Int := if a.null then 1 else if a.n = 0 then 0 else 2
def ofT (k : Int) : Va := if k = 1 then nullVa else numVa (k / 2)
/-! the numbers -/
theorem ten_pos (k : Nat) : 0 < ten k := by unfold ten; exact Int.pow_pos (by decide)
theorem ten_add (a b : Nat) : ten (a + b) = ten a * ten b := by unfold ten; exact Int.pow_add 10 a b
theorem ten_succ (k : Nat) : ten (k + 1) = ten k * 10 := by unfold ten; exact Int.pow_succ 10 k
theorem ten_le (k : Nat) (h : k ≤ 9) : ten k ≤ 1000000000 := by
  unfold ten
  rcases (show k = 0 ∨ k = 1 ∨ k = 2 ∨ k = 3 ∨ k = 4 ∨ k = 5 ∨ k = 6 ∨ k = 7 ∨ k = 8 ∨ k = 9 by omega) with rfl | rfl | rfl | rfl | rfl | rfl | rfl | rfl | rfl | rfl <;> decide
theorem num_range {t : Ty} (h : numB t = true) : 0 ≤ t.scale ∧ t.scale ≤ 9 ∧ ((t.kind = 1 ∧ t.scale = 0) ∨ (t.kind = 2 ∧ 1 ≤ t.scale)) := by
  unfold numB tyB at h
  simp only [Bool.and_eq_true, Bool.or_eq_true, beq_iff_eq, decide_eq_true_eq] at h
  omega
theorem num_ty {t : Ty} (h : numB t = true) : tyB t = true := by
  unfold numB at h
  simp only [Bool.and_eq_true] at h
  exact h.1
/-- what a whole part and a rest say of a number -/
theorem parts_val (a : Int) (k : Nat) (hk : k ≤ 9) : a.tdiv (ten k) * 1000000000 + a.tmod (ten k) * ten (9 - k) = a * ten (9 - k) := by
  have h1 := Int.mul_tdiv_add_tmod a (ten k)
  have h2 : (1000000000 : Int) = ten k * ten (9 - k) := by rw [← ten_add, show k + (9 - k) = 9 by omega]; rfl
  calc a.tdiv (ten k) * 1000000000 + a.tmod (ten k) * ten (9 - k) = (ten k * a.tdiv (ten k) + a.tmod (ten k)) * ten (9 - k) := by
        rw [h2, Int.add_mul, Int.mul_comm (ten k) (a.tdiv (ten k)), Int.mul_assoc]
    _ = a * ten (9 - k) := by rw [h1]
theorem parts_small (a : Int) (k : Nat) (hk : k ≤ 9) : (0 ≤ a → 0 ≤ a.tdiv (ten k) ∧ 0 ≤ a.tmod (ten k) * ten (9 - k) ∧ a.tmod (ten k) * ten (9 - k) < 1000000000) ∧ (a ≤ 0 → a.tdiv (ten k) ≤ 0 ∧ a.tmod (ten k) * ten (9 - k) ≤ 0 ∧ -1000000000 < a.tmod (ten k) * ten (9 - k)) := by
  have hp := ten_pos k
  have hq := ten_pos (9 - k)
  have h2 : ten k * ten (9 - k) = (1000000000 : Int) := by rw [← ten_add, show k + (9 - k) = 9 by omega]; rfl
  have pos : ∀ b : Int, 0 ≤ b → 0 ≤ b.tdiv (ten k) ∧ 0 ≤ b.tmod (ten k) * ten (9 - k) ∧ b.tmod (ten k) * ten (9 - k) < 1000000000 := fun b hb => by
    refine ⟨Int.tdiv_nonneg hb (by omega), Int.mul_nonneg (Int.tmod_nonneg _ hb) (by omega), ?_⟩
    rw [← h2]
    exact Int.mul_lt_mul_of_pos_right (Int.tmod_lt_of_pos _ hp) hq
  refine ⟨pos a, fun h => ?_⟩
  have h3 := pos (-a) (by omega)
  rw [Int.neg_tdiv, Int.neg_tmod, Int.neg_mul] at h3
  omega
theorem parts_cmp (a b : Int) (j k : Nat) (hj : j ≤ 9) (hk : k ≤ 9) : (a.tdiv (ten j) < b.tdiv (ten k) ∨ (a.tdiv (ten j) = b.tdiv (ten k) ∧ a.tmod (ten j) * ten (9 - j) < b.tmod (ten k) * ten (9 - k))) ↔ a * ten (9 - j) < b * ten (9 - k) := by
  have h1 := parts_val a j hj
  have h2 := parts_val b k hk
  have h3 := parts_small a j hj
  have h4 := parts_small b k hk
  obtain ⟨p, hp⟩ : ∃ p, a.tdiv (ten j) = p := ⟨_, rfl⟩
  obtain ⟨q, hq⟩ : ∃ q, a.tmod (ten j) * ten (9 - j) = q := ⟨_, rfl⟩
  obtain ⟨r, hr⟩ : ∃ r, b.tdiv (ten k) = r := ⟨_, rfl⟩
  obtain ⟨s, hs⟩ : ∃ s, b.tmod (ten k) * ten (9 - k) = s := ⟨_, rfl⟩
  rw [hp, hq] at h1 h3
  rw [hr, hs] at h2 h4
  rw [hp, hq, hr, hs, ← h1, ← h2]
  rcases Int.le_total 0 a with ha | ha <;> rcases Int.le_total 0 b with hb | hb
  · have := h3.1 ha; have := h4.1 hb; omega
  · have := h3.1 ha; have := h4.2 hb; omega
  · have := h3.2 ha; have := h4.1 hb; omega
  · have := h3.2 ha; have := h4.2 hb; omega
/-! 128 bits: a sign, and how far it is from 0 -/
def cmpW (m : Bool) (p : Nat) (m' : Bool) (p' : Nat) : Int := cmpI (if m then -(p : Int) else p) (if m' then -(p' : Int) else p')
theorem sgn_mul (a : Int) (t : Int) (ht : 0 < t) : (if decide (a < 0) then -((a.natAbs * t.natAbs : Nat) : Int) else ((a.natAbs * t.natAbs : Nat) : Int)) = a * t := by
  have h1 : ((t.natAbs : Nat) : Int) = t := Int.natAbs_of_nonneg (by omega)
  by_cases h : a < 0
  · rw [decide_eq_true h, if_pos rfl, Int.natCast_mul, h1, Int.ofNat_natAbs_of_nonpos (by omega), Int.neg_mul, Int.neg_neg]
  · rw [decide_eq_false h, if_neg (by decide), Int.natCast_mul, h1, Int.natAbs_of_nonneg (by omega)]
/-! scaling in steps -/
theorem fits_abs {n m : Int} (h : fits n = true) (h1 : (0 ≤ m ∧ m ≤ n) ∨ (m ≤ 0 ∧ n ≤ m)) : fits m = true := by
  rw [fits_iff] at h ⊢
  unfold I64 at *
  omega
theorem fits_less (n : Int) (k : Nat) (h : fits (n * ten (k + 1)) = true) : fits (n * ten k) = true := by
  have hp := ten_pos k
  refine fits_abs h ?_
  rw [ten_succ, ← Int.mul_assoc]
  obtain ⟨m, hm⟩ : ∃ m, n * ten k = m := ⟨_, rfl⟩
  rw [hm]
  omega
theorem fits_zero {n : Int} {k : Nat} (h : fits (n * ten k) = true) : fits n = true := by
  induction k with
  | zero => simpa [ten] using h
  | succ k ih => exact ih (fits_less n k h)
end Go.Proofs.YtekpdcofjhdiiaaGreatDoor.Val
