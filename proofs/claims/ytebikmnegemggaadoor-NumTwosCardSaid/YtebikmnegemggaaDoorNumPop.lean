/-
  How many bits of a number are 1, counted side by side (math/bits.OnesCount64), in plain Lean. No condition beyond what each theorem names.
-/
import Derived.Laws.Bits64b
namespace Go.Proofs.YtebikmnegemggaaDoor.Num
set_option linter.unusedVariables false

/-- how many of the lowest k bits are 1 -/
def pc : Nat → Nat → Nat
  | 0, _ => 0
  | k + 1, x => x % 2 + pc k (x / 2)

theorem pc_le (k x : Nat) : pc k x ≤ k := by
  induction k generalizing x with
  | zero => simp [pc]
  | succ k ih => have := ih (x / 2); simp only [pc]; omega

theorem pc_add (a b x : Nat) : pc (a + b) x = pc a x + pc b (x / 2 ^ a) := by
  induction a generalizing x with
  | zero => simp [pc]
  | succ a ih =>
    rw [show a + 1 + b = (a + b) + 1 by omega]
    simp only [pc, ih (x / 2)]
    rw [Nat.div_div_eq_div_mul, Nat.pow_succ, Nat.mul_comm 2]
    omega

theorem pc_mod (k j x : Nat) (h : k ≤ j) : pc k (x % 2 ^ j) = pc k x := by
  induction k generalizing j x with
  | zero => simp [pc]
  | succ k ih =>
    obtain ⟨i, rfl⟩ : ∃ i, j = i + 1 := ⟨j - 1, by omega⟩
    simp only [pc]
    have h1 : x % 2 ^ (i + 1) % 2 = x % 2 := Nat.mod_mod_of_dvd _ ⟨2 ^ i, by rw [Nat.pow_succ]; omega⟩
    have h2 : x % 2 ^ (i + 1) / 2 = x / 2 % 2 ^ i := by
      rw [Nat.pow_succ, Nat.mul_comm, Nat.mod_mul_right_div_self]
    rw [h1, h2, ih i (x / 2) (by omega)]

/-- 'and', field by field -/
theorem and_fields (k a m d e : Nat) (hd : d < 2 ^ k) (he : e < 2 ^ k) : (2 ^ k * a + d) &&& (2 ^ k * m + e) = 2 ^ k * (a &&& m) + (d &&& e) := by
  apply Nat.eq_of_testBit_eq
  intro i
  rw [Nat.testBit_and, Nat.testBit_two_pow_mul_add _ hd, Nat.testBit_two_pow_mul_add _ he, Nat.testBit_two_pow_mul_add _ (Nat.and_lt_two_pow _ he)]
  split
  · rw [Nat.testBit_and]
  · rw [Nat.testBit_and]

/-- masks: n fields of w bits, e in each -/
def mask (w e : Nat) : Nat → Nat
  | 0 => 0
  | n + 1 => 2 ^ w * mask w e n + e

theorem and_mask (w e n x : Nat) (he : e < 2 ^ w) : x &&& mask w e (n + 1) = 2 ^ w * (x / 2 ^ w &&& mask w e n) + (x % 2 ^ w &&& e) := by
  conv => lhs; rw [← Nat.div_add_mod x (2 ^ w)]
  exact and_fields w _ _ _ _ (Nat.mod_lt _ (Nat.pow_pos (by decide))) he

/-- a number told by fields of w bits: how many bits are 1 in each -/
def flds (w : Nat) : Nat → Nat → Nat
  | 0, _ => 0
  | n + 1, x => 2 ^ w * flds w n (x / 2 ^ w) + pc w x

theorem low2 : ∀ d : Nat, d < 4 → (d / 2 &&& 1) + (d &&& 1) = pc 2 d := by decide

theorem step1 (n x : Nat) : (x / 2 &&& mask 2 1 n) + (x &&& mask 2 1 n) = flds 2 n x := by
  induction n generalizing x with
  | zero => simp [mask, flds]
  | succ n ih =>
    rw [and_mask 2 1 n (x / 2) (by decide), and_mask 2 1 n x (by decide)]
    have h := ih (x / 4)
    have e1 : x / 2 / 2 ^ 2 = x / 4 / 2 := by omega
    have e2 : x / 2 ^ 2 = x / 4 := by omega
    have e3 : (x / 2 % 2 ^ 2 &&& 1) + (x % 2 ^ 2 &&& 1) = pc 2 x := by
      have h4 := low2 (x % 4) (Nat.mod_lt _ (by decide))
      have h5 := pc_mod 2 2 x (Nat.le_refl _)
      rw [show (2 : Nat) ^ 2 = 4 from rfl] at h5 ⊢
      rw [h5] at h4
      rw [← h4]
      have h6 : x / 2 % 4 &&& 1 = x % 4 / 2 &&& 1 := by
        rw [Nat.and_one_is_mod, Nat.and_one_is_mod]
        omega
      rw [h6]
    simp only [flds]
    rw [e1, e2] at *
    rw [← h, ← e3]
    omega

theorem flds_mod (w n x : Nat) (hw : 2 ≤ w) : flds w (n + 1) x % 2 ^ w = pc w x := by
  have h1 := pc_le w x
  have h2 : w < 2 ^ w := Nat.lt_two_pow_self
  simp only [flds]
  rw [Nat.mul_add_mod, Nat.mod_eq_of_lt (by omega)]
theorem flds_div (w n x : Nat) (hw : 2 ≤ w) : flds w (n + 1) x / 2 ^ w = flds w n (x / 2 ^ w) := by
  have h1 := pc_le w x
  have h2 : w < 2 ^ w := Nat.lt_two_pow_self
  simp only [flds]
  rw [Nat.add_comm, Nat.add_mul_div_left _ _ (by omega), Nat.div_eq_of_lt (by omega), Nat.zero_add]

theorem flds_mod_le (w n x : Nat) (hw : 2 ≤ w) : flds w n x % 2 ^ w ≤ w := by
  cases n with
  | zero => simp [flds]
  | succ n => rw [flds_mod w n x hw]; exact pc_le w x

theorem step2 (n x : Nat) : (flds 2 (n + n) x / 4 &&& mask 4 3 n) + (flds 2 (n + n) x &&& mask 4 3 n) = flds 4 n x := by
  induction n generalizing x with
  | zero => simp [mask, flds]
  | succ n ih =>
    rw [and_mask 4 3 n (flds 2 (n + 1 + (n + 1)) x / 4) (by decide), and_mask 4 3 n (flds 2 (n + 1 + (n + 1)) x) (by decide)]
    rw [show n + 1 + (n + 1) = (n + n + 1) + 1 by omega]
    have a1 := flds_mod 2 (n + n + 1) x (by decide)
    have a2 := flds_div 2 (n + n + 1) x (by decide)
    have a3 := flds_mod 2 (n + n) (x / 2 ^ 2) (by decide)
    have a4 := flds_div 2 (n + n) (x / 2 ^ 2) (by decide)
    have b1 := pc_le 2 x
    have b2 := pc_le 2 (x / 2 ^ 2)
    have b3 := pc_add 2 2 x
    have h := ih (x / 16)
    have e1 : x / 2 ^ 2 / 2 ^ 2 = x / 16 := by omega
    rw [e1] at a4
    have e5 : x / 2 ^ 4 = x / 16 := by omega
    generalize flds 2 (n + n + 1 + 1) x = Y at *
    rw [← a2] at a3 a4
    generalize flds 2 (n + n) (x / 16) = Z at *
    simp only [flds]
    rw [e5, show pc 4 x = pc 2 x + pc 2 (x / 2 ^ 2) from b3, ← h]
    have hY : Y = 16 * Z + 4 * pc 2 (x / 2 ^ 2) + pc 2 x := by
      have := Nat.div_add_mod Y 4
      have := Nat.div_add_mod (Y / 4) 4
      simp only [show (2 : Nat) ^ 2 = 4 from rfl] at *
      omega
    have c1 : Y / 4 / 2 ^ 4 = Z / 4 := by simp only [show (2 : Nat) ^ 4 = 16 from rfl]; omega
    have c2 : Y / 2 ^ 4 = Z := by simp only [show (2 : Nat) ^ 4 = 16 from rfl, show (2 : Nat) ^ 2 = 4 from rfl] at *; omega
    have c3 : Y / 4 % 2 ^ 4 &&& 3 = pc 2 (x / 2 ^ 2) := by
      rw [Nat.and_two_pow_sub_one_eq_mod _ 2]
      simp only [show (2 : Nat) ^ 4 = 16 from rfl, show (2 : Nat) ^ 2 = 4 from rfl] at *
      omega
    have c4 : Y % 2 ^ 4 &&& 3 = pc 2 x := by
      rw [Nat.and_two_pow_sub_one_eq_mod _ 2]
      simp only [show (2 : Nat) ^ 4 = 16 from rfl, show (2 : Nat) ^ 2 = 4 from rfl] at *
      omega
    rw [c1, c2, c3, c4]
    simp only [show (2 : Nat) ^ 4 = 16 from rfl]
    omega

theorem step3 (n x : Nat) : (flds 4 (n + n) x / 16 + flds 4 (n + n) x) &&& mask 8 15 n = flds 8 n x := by
  induction n generalizing x with
  | zero => simp [mask, flds]
  | succ n ih =>
    rw [and_mask 8 15 n _ (by decide)]
    rw [show n + 1 + (n + 1) = (n + n + 1) + 1 by omega]
    have a1 := flds_mod 4 (n + n + 1) x (by decide)
    have a2 := flds_div 4 (n + n + 1) x (by decide)
    have a3 := flds_mod 4 (n + n) (x / 2 ^ 4) (by decide)
    have a4 := flds_div 4 (n + n) (x / 2 ^ 4) (by decide)
    have b1 := pc_le 4 x
    have b2 := pc_le 4 (x / 2 ^ 4)
    have b3 := pc_add 4 4 x
    have h := ih (x / 256)
    have e1 : x / 2 ^ 4 / 2 ^ 4 = x / 256 := by omega
    rw [e1] at a4
    have e5 : x / 2 ^ 8 = x / 256 := by omega
    generalize flds 4 (n + n + 1 + 1) x = Y at *
    rw [← a2] at a3 a4
    have z0 := flds_mod_le 4 (n + n) (x / 256) (by decide)
    generalize flds 4 (n + n) (x / 256) = Z at *
    simp only [flds]
    rw [e5, show pc 8 x = pc 4 x + pc 4 (x / 2 ^ 4) from b3, ← h]
    simp only [show (2 : Nat) ^ 4 = 16 from rfl, show (2 : Nat) ^ 8 = 256 from rfl] at *
    have hY : Y = 256 * Z + 16 * pc 4 (x / 16) + pc 4 x := by
      have := Nat.div_add_mod Y 16
      have := Nat.div_add_mod (Y / 16) 16
      omega
    have c1 : (Y / 16 + Y) / 256 = Z / 16 + Z := by omega
    have c3 : (Y / 16 + Y) % 256 &&& 15 = pc 4 x + pc 4 (x / 16) := by
      rw [Nat.and_two_pow_sub_one_eq_mod _ 4]
      simp only [show (2 : Nat) ^ 4 = 16 from rfl]
      omega
    rw [c1, c3]

theorem mask1 : mask 2 1 32 = 6148914691236517205 := by decide
theorem mask2 : mask 4 3 16 = 3689348814741910323 := by decide
theorem mask3 : mask 8 15 8 = 1085102592571150095 := by decide

theorem flds8 (x : Nat) : ∃ p0 p1 p2 p3 p4 p5 p6 p7 : Nat, flds 8 8 x = p0 + 256 * p1 + 65536 * p2 + 16777216 * p3 + 4294967296 * p4 + 1099511627776 * p5 + 281474976710656 * p6 + 72057594037927936 * p7 ∧
    p0 ≤ 8 ∧ p1 ≤ 8 ∧ p2 ≤ 8 ∧ p3 ≤ 8 ∧ p4 ≤ 8 ∧ p5 ≤ 8 ∧ p6 ≤ 8 ∧ p7 ≤ 8 ∧ pc 64 x = p0 + p1 + p2 + p3 + p4 + p5 + p6 + p7 := by
  refine ⟨_, _, _, _, _, _, _, _, ?_, pc_le 8 x, pc_le 8 (x / 2 ^ 8), pc_le 8 (x / 2 ^ 8 / 2 ^ 8), pc_le 8 (x / 2 ^ 8 / 2 ^ 8 / 2 ^ 8), pc_le 8 (x / 2 ^ 8 / 2 ^ 8 / 2 ^ 8 / 2 ^ 8), pc_le 8 (x / 2 ^ 8 / 2 ^ 8 / 2 ^ 8 / 2 ^ 8 / 2 ^ 8), pc_le 8 (x / 2 ^ 8 / 2 ^ 8 / 2 ^ 8 / 2 ^ 8 / 2 ^ 8 / 2 ^ 8), pc_le 8 (x / 2 ^ 8 / 2 ^ 8 / 2 ^ 8 / 2 ^ 8 / 2 ^ 8 / 2 ^ 8 / 2 ^ 8), ?_⟩
  · simp only [flds]
    omega
  · rw [show (64 : Nat) = 8 + (8 + (8 + (8 + (8 + (8 + (8 + 8)))))) from rfl]
    simp only [pc_add 8]
    omega

/-- OnesCount64 -/
theorem swar (x x1 x2 x3 x4 x5 x6 : Nat) (hx : x < 18446744073709551616) (h1 : x1 = (x / 2 &&& 6148914691236517205) + (x &&& 6148914691236517205))
    (h2 : x2 = (x1 / 4 &&& 3689348814741910323) + (x1 &&& 3689348814741910323)) (h3 : x3 = (x2 / 16 + x2) &&& 1085102592571150095)
    (h4 : x4 = (x3 + x3 / 256) % 18446744073709551616) (h5 : x5 = (x4 + x4 / 65536) % 18446744073709551616) (h6 : x6 = (x5 + x5 / 4294967296) % 18446744073709551616) : x6 % 128 = pc 64 x := by
  rw [← mask1, step1] at h1
  subst h1
  rw [← mask2, step2 16] at h2
  subst h2
  rw [← mask3, step3 8] at h3
  obtain ⟨p0, p1, p2, p3, p4, p5, p6, p7, e, b0, b1, b2, b3, b4, b5, b6, b7, hp⟩ := flds8 x
  rw [e] at h3
  clear e
  rw [hp]
  have d4 : x3 / 256 = p1 + 256 * p2 + 65536 * p3 + 16777216 * p4 + 4294967296 * p5 + 1099511627776 * p6 + 281474976710656 * p7 := by omega
  rw [d4, h3] at h4
  clear d4 h3
  obtain ⟨s0, hs0⟩ : ∃ s, s = p0 + p1 := ⟨_, rfl⟩
  obtain ⟨s1, hs1⟩ : ∃ s, s = p1 + p2 := ⟨_, rfl⟩
  obtain ⟨s2, hs2⟩ : ∃ s, s = p2 + p3 := ⟨_, rfl⟩
  obtain ⟨s3, hs3⟩ : ∃ s, s = p3 + p4 := ⟨_, rfl⟩
  obtain ⟨s4, hs4⟩ : ∃ s, s = p4 + p5 := ⟨_, rfl⟩
  obtain ⟨s5, hs5⟩ : ∃ s, s = p5 + p6 := ⟨_, rfl⟩
  obtain ⟨s6, hs6⟩ : ∃ s, s = p6 + p7 := ⟨_, rfl⟩
  have e4 : p0 + 256 * p1 + 65536 * p2 + 16777216 * p3 + 4294967296 * p4 + 1099511627776 * p5 + 281474976710656 * p6 + 72057594037927936 * p7 + (p1 + 256 * p2 + 65536 * p3 + 16777216 * p4 + 4294967296 * p5 + 1099511627776 * p6 + 281474976710656 * p7)
      = s0 + 256 * s1 + 65536 * s2 + 16777216 * s3 + 4294967296 * s4 + 1099511627776 * s5 + 281474976710656 * s6 + 72057594037927936 * p7 := by omega
  rw [e4, Nat.mod_eq_of_lt (by omega)] at h4
  clear e4
  have hp' : p0 + p1 + p2 + p3 + p4 + p5 + p6 + p7 = s0 + s2 + s4 + s6 := by omega
  rw [hp']
  have c0 : s0 ≤ 16 := by omega
  have c1 : s1 ≤ 16 := by omega
  have c2 : s2 ≤ 16 := by omega
  have c3 : s3 ≤ 16 := by omega
  have c4 : s4 ≤ 16 := by omega
  have c5 : s5 ≤ 16 := by omega
  have c6 : s6 ≤ 16 := by omega
  clear hs0 hs1 hs2 hs3 hs4 hs5 hs6 hp' hp b0 b1 b2 b3 b4 b5 b6
  have d5 : x4 / 65536 = s2 + 256 * s3 + 65536 * s4 + 16777216 * s5 + 4294967296 * s6 + 1099511627776 * p7 := by omega
  rw [d5, h4] at h5
  clear d5 h4
  obtain ⟨t0, ht0⟩ : ∃ t, t = s0 + s2 := ⟨_, rfl⟩
  obtain ⟨t4, ht4⟩ : ∃ t, t = s4 + s6 := ⟨_, rfl⟩
  obtain ⟨U, hU⟩ : ∃ U, U = s1 + s3 + 256 * (s2 + s4) + 65536 * (s3 + s5) := ⟨_, rfl⟩
  obtain ⟨V, hV⟩ : ∃ V, V = s5 + p7 + 256 * s6 + 65536 * p7 := ⟨_, rfl⟩
  have e5 : s0 + 256 * s1 + 65536 * s2 + 16777216 * s3 + 4294967296 * s4 + 1099511627776 * s5 + 281474976710656 * s6 + 72057594037927936 * p7 + (s2 + 256 * s3 + 65536 * s4 + 16777216 * s5 + 4294967296 * s6 + 1099511627776 * p7)
      = t0 + 256 * U + 4294967296 * (t4 + 256 * V) := by omega
  have hU2 : U < 16777216 := by omega
  have hV2 : V < 8388608 := by omega
  have ht : s0 + s2 + s4 + s6 = t0 + t4 := by omega
  rw [ht]
  have k0 : t0 ≤ 32 := by omega
  have k4 : t4 ≤ 32 := by omega
  rw [e5] at h5
  clear e5 ht hU hV ht0 ht4 c0 c1 c2 c3 c4 c5 c6 b7
  rw [Nat.mod_eq_of_lt (by omega)] at h5
  have d6 : x5 / 4294967296 = t4 + 256 * V := by omega
  rw [d6, h5, Nat.mod_eq_of_lt (by omega)] at h6
  clear d6 h5
  omega
end Go.Proofs.YtebikmnegemggaaDoor.Num
