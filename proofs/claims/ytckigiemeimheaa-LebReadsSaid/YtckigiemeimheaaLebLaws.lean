/-
  What LEB128 written and read comes to, in plain Lean: read back, sizes, room. No condition beyond what each theorem names.
-/
import Derived.Test.YtckigiemeimheaaLebPlain
namespace Go.Proofs.Ytckigiemeimheaa.Leb
set_option linter.unusedVariables false

theorem putU_len (k n j : Nat) (h : n < 2 ^ (7 * (j + 1))) (hk : j + 1 ≤ k) : (putU k n).length ≤ j + 1 := by
  induction k generalizing n j with
  | zero => omega
  | succ k ih =>
    simp only [putU]
    split
    · simp
    · rename_i hn
      cases j with
      | zero => simp at h; omega
      | succ j =>
        have e : (2 : Nat) ^ (7 * (j + 1 + 1)) = 128 * 2 ^ (7 * (j + 1)) := by rw [Nat.mul_add 7 (j + 1), Nat.pow_add]; omega
        have := ih (n / 128) j (by omega) (by omega)
        simp only [List.length_cons]
        omega

theorem putS_len (k : Nat) (n : Int) (j : Nat) (h : -(2 ^ (7 * (j + 1)) : Int) ≤ 2 * n ∧ 2 * n < (2 ^ (7 * (j + 1)) : Int)) (hk : j + 1 ≤ k) : (putS k n).length ≤ j + 1 := by
  induction k generalizing n j with
  | zero => omega
  | succ k ih =>
    simp only [putS]
    split
    · simp
    · rename_i hn
      cases j with
      | zero => simp at h; omega
      | succ j =>
        have e : (2 : Int) ^ (7 * (j + 1 + 1)) = 128 * 2 ^ (7 * (j + 1)) := by rw [Nat.mul_add 7 (j + 1), Int.pow_add]; omega
        have e2 : (2 : Int) ^ (7 * (j + 1)) = 128 * 2 ^ (7 * j) := by rw [Nat.mul_add 7 j, Int.pow_add]; omega
        rw [e] at h
        have := ih (n / 128) j (by rw [e2] at h ⊢; omega) (by omega)
        simp only [List.length_cons]
        omega

/-- a number of at most 64 bits that stands among other bytes is found, if it is short enough -/
theorem scan_putU (n : Nat) (k : Nat) (more : List UInt8) (h : n < 2 ^ 64) (hk : k ≤ 10) :
    scan k (putU 10 n ++ more) = if (putU 10 n).length ≤ k then some (putU 10 n) else none := by
  obtain ⟨ini, last, h1, h2, h3, h4, _⟩ := putU_form 10 n (by omega) (by omega)
  rw [h1]
  simp only [List.append_assoc, List.singleton_append, List.length_append, List.length_singleton]
  split
  · rename_i hl
    exact scan_of h3 h2 (by omega)
  · rename_i hl
    exact scan_none_of h3 (.inl (by omega))

theorem scan_putS (n : Int) (k : Nat) (more : List UInt8) (h : -(2 ^ 63) ≤ n ∧ n < 2 ^ 63) (hk : k ≤ 10) :
    scan k (putS 10 n ++ more) = if (putS 10 n).length ≤ k then some (putS 10 n) else none := by
  obtain ⟨ini, last, h1, h2, h3, h4, _⟩ := putS_form 10 n (by omega) (by omega)
  rw [h1]
  simp only [List.append_assoc, List.singleton_append, List.length_append, List.length_singleton]
  split
  · rename_i hl
    exact scan_of h3 h2 (by omega)
  · rename_i hl
    exact scan_none_of h3 (.inl (by omega))

theorem putU_len10 (n : Nat) (h : n < 2 ^ 64) : (putU 10 n).length ≤ 10 := putU_len 10 n 9 (by omega) (by omega)
theorem putS_len10 (n : Int) (h : -(2 ^ 63) ≤ n ∧ n < 2 ^ 63) : (putS 10 n).length ≤ 10 := putS_len 10 n 9 (by omega) (by omega)
theorem putU_val (n : Nat) (h : n < 2 ^ 64) : val (putU 10 n) = n := by
  obtain ⟨_, _, _, _, _, _, h5⟩ := putU_form 10 n (by omega) (by omega)
  exact h5
theorem putS_val (n : Int) (h : -(2 ^ 63) ≤ n ∧ n < 2 ^ 63) : sval (putS 10 n) = n := by
  obtain ⟨_, _, _, _, _, _, h5⟩ := putS_form 10 n (by omega) (by omega)
  exact h5

theorem readU64_put (n : Nat) (more : List UInt8) (h : n < 2 ^ 64) : readU 64 (putU 10 n ++ more) = some (n, (putU 10 n).length) := by
  unfold readU
  rw [show (64 + 6) / 7 = 10 from rfl, scan_putU n 10 more h (by omega), if_pos (putU_len10 n h)]
  simp only [rdU, putU_val n h, if_pos h, Option.map_some]

theorem readS64_put (n : Int) (more : List UInt8) (h : -(2 ^ 63) ≤ n ∧ n < 2 ^ 63) : readS 64 (putS 10 n ++ more) = some (n, (putS 10 n).length) := by
  unfold readS
  rw [show (64 + 6) / 7 = 10 from rfl, scan_putS n 10 more h (by omega), if_pos (putS_len10 n h)]
  simp only [rdS, putS_val n h]
  rw [if_pos h]
  rfl

theorem readU32_put (n : Nat) (more : List UInt8) (h : n < 2 ^ 64) : readU 32 (putU 10 n ++ more) = if n < 2 ^ 32 then some (n, (putU 10 n).length) else none := by
  unfold readU
  rw [show (32 + 6) / 7 = 5 from rfl, scan_putU n 5 more h (by omega)]
  by_cases h32 : n < 2 ^ 32
  · rw [if_pos (putU_len 10 n 4 (by omega) (by omega)), if_pos h32]
    simp only [rdU, putU_val n h, if_pos h32, Option.map_some]
  · rw [if_neg h32]
    split
    · rfl
    · rename_i ds hds
      split at hds
      · simp only [Option.some.injEq] at hds
        subst hds
        simp only [rdU, putU_val n h, if_neg h32, Option.map_none]
      · cases hds

theorem readS32_put (n : Int) (more : List UInt8) (h : -(2 ^ 63) ≤ n ∧ n < 2 ^ 63) :
    readS 32 (putS 10 n ++ more) = if -(2 ^ 31) ≤ n ∧ n < 2 ^ 31 then some (n, (putS 10 n).length) else none := by
  unfold readS
  rw [show (32 + 6) / 7 = 5 from rfl, scan_putS n 5 more h (by omega)]
  by_cases h32 : -(2 ^ 31) ≤ n ∧ n < 2 ^ 31
  · rw [if_pos (putS_len 10 n 4 (by omega) (by omega)), if_pos h32]
    simp only [rdS, putS_val n h]
    rw [if_pos h32]
    rfl
  · rw [if_neg h32]
    split
    · rfl
    · rename_i ds hds
      split at hds
      · simp only [Option.some.injEq] at hds
        subst hds
        simp only [rdS, putS_val n h]
        rw [if_neg h32]
        rfl
      · cases hds

/-- in the middle of a text -/
theorem ansU_at (bits : Nat) (pre l : List UInt8) (p : Int) (hp : p = pre.length) :
    ansU bits (pre ++ l) p = match readU bits l with | none => (0, 0, 2) | some (v, n) => ((v : Int), p + n, 0) := by
  subst hp
  unfold ansU
  rw [if_neg (by simp; omega), Int.toNat_natCast, List.drop_left]
  cases readU bits l <;> rfl
theorem ansS_at (bits : Nat) (pre l : List UInt8) (p : Int) (hp : p = pre.length) :
    ansS bits (pre ++ l) p = match readS bits l with | none => (0, 0, 2) | some (v, n) => (v, p + n, 0) := by
  subst hp
  unfold ansS
  rw [if_neg (by simp; omega), Int.toNat_natCast, List.drop_left]
  cases readS bits l <;> rfl

theorem ansU64_put (n : Nat) (pre more : List UInt8) (p : Int) (hp : p = pre.length) (h : n < 2 ^ 64) :
    ansU 64 (pre ++ (putU 10 n ++ more)) p = ((n : Int), p + (putU 10 n).length, 0) := by
  rw [ansU_at 64 pre _ p hp, readU64_put n more h]
theorem ansS64_put (n : Int) (pre more : List UInt8) (p : Int) (hp : p = pre.length) (h : -(2 ^ 63) ≤ n ∧ n < 2 ^ 63) :
    ansS 64 (pre ++ (putS 10 n ++ more)) p = (n, p + (putS 10 n).length, 0) := by
  rw [ansS_at 64 pre _ p hp, readS64_put n more h]
theorem ansU32_put (n : Nat) (pre more : List UInt8) (p : Int) (hp : p = pre.length) (h : n < 2 ^ 64) :
    ansU 32 (pre ++ (putU 10 n ++ more)) p = if n < 2 ^ 32 then ((n : Int), p + (putU 10 n).length, 0) else (0, 0, 2) := by
  rw [ansU_at 32 pre _ p hp, readU32_put n more h]
  by_cases h1 : n < 2 ^ 32
  · rw [if_pos h1, if_pos h1]
  · rw [if_neg h1, if_neg h1]
theorem ansS32_put (n : Int) (pre more : List UInt8) (p : Int) (hp : p = pre.length) (h : -(2 ^ 63) ≤ n ∧ n < 2 ^ 63) :
    ansS 32 (pre ++ (putS 10 n ++ more)) p = if -(2 ^ 31) ≤ n ∧ n < 2 ^ 31 then (n, p + (putS 10 n).length, 0) else (0, 0, 2) := by
  rw [ansS_at 32 pre _ p hp, readS32_put n more h]
  by_cases h1 : -(2 ^ 31) ≤ n ∧ n < 2 ^ 31
  · rw [if_pos h1, if_pos h1]
  · rw [if_neg h1, if_neg h1]

/-- cut ahead of its last byte a number is none -/
theorem ansU_cut (n : Nat) (bits : Nat) (h : n < 2 ^ 64) : ansU bits ((putU 10 n).take ((putU 10 n).length - 1)) 0 = (0, 0, 2) := by
  obtain ⟨ini, last, h1, h2, h3, h4, _⟩ := putU_form 10 n (by omega) (by omega)
  rw [h1]
  have e : (ini ++ [last]).take ((ini ++ [last]).length - 1) = ini := by simp
  rw [e]
  have hs := scan_none_of (rest := []) (k := (bits + 6) / 7) h3 (.inr rfl)
  rw [List.append_nil] at hs
  have := ansU_at bits [] ini 0 rfl
  rw [List.nil_append] at this
  rw [this]
  unfold readU
  rw [hs]
theorem ansS_cut (n : Int) (bits : Nat) (h : -(2 ^ 63) ≤ n ∧ n < 2 ^ 63) : ansS bits ((putS 10 n).take ((putS 10 n).length - 1)) 0 = (0, 0, 2) := by
  obtain ⟨ini, last, h1, h2, h3, h4, _⟩ := putS_form 10 n (by omega) (by omega)
  rw [h1]
  have e : (ini ++ [last]).take ((ini ++ [last]).length - 1) = ini := by simp
  rw [e]
  have hs := scan_none_of (rest := []) (k := (bits + 6) / 7) h3 (.inr rfl)
  rw [List.append_nil] at hs
  have := ansS_at bits [] ini 0 rfl
  rw [List.nil_append] at this
  rw [this]
  unfold readS
  rw [hs]
theorem putU_pos (n : Nat) (h : n < 2 ^ 64) : 0 < (putU 10 n).length := by
  obtain ⟨ini, last, h1, _⟩ := putU_form 10 n (by omega) (by omega)
  rw [h1]; simp
theorem putS_pos (n : Int) (h : -(2 ^ 63) ≤ n ∧ n < 2 ^ 63) : 0 < (putS 10 n).length := by
  obtain ⟨ini, last, h1, _⟩ := putS_form 10 n (by omega) (by omega)
  rw [h1]; simp

/-- as many bytes as bits ask for -/
theorem putU_size (k n b : Nat) (h1 : n < 2 ^ b) (h2 : b = 0 ∨ 2 ^ (b - 1) ≤ n) (hb : b ≤ 7 * k) (hk : 0 < k) : (putU k n).length = (max b 1 + 6) / 7 := by
  induction k generalizing n b with
  | zero => omega
  | succ k ih =>
    simp only [putU]
    split
    · rename_i hn
      have : b ≤ 7 := by
        rcases h2 with h2 | h2
        · omega
        · rcases Nat.lt_or_ge 7 b with h3 | h3
          · have : (2 : Nat) ^ 7 ≤ 2 ^ (b - 1) := Nat.pow_le_pow_right (by decide) (by omega)
            omega
          · exact h3
      simp only [List.length_singleton]
      omega
    · rename_i hn
      have hb7 : 7 < b := by
        rcases Nat.lt_or_ge 7 b with h3 | h3
        · exact h3
        · have : (2 : Nat) ^ b ≤ 2 ^ 7 := Nat.pow_le_pow_right (by decide) h3
          omega
      obtain ⟨c, rfl⟩ : ∃ c, b = c + 7 + 1 := ⟨b - 8, by omega⟩
      have e : (2 : Nat) ^ (c + 7 + 1) = 128 * 2 ^ (c + 1) := by rw [show c + 7 + 1 = c + 1 + 7 by omega, Nat.pow_add]; omega
      have e2 : (2 : Nat) ^ (c + 7 + 1 - 1) = 128 * 2 ^ c := by rw [show c + 7 + 1 - 1 = c + 7 by omega, Nat.pow_add]; omega
      have := ih (n / 128) (c + 1) (by omega) (.inr (by simp; omega)) (by omega) (by omega)
      simp only [List.length_cons, this]
      omega

theorem putS_size (k : Nat) (n : Int) (b : Nat) (h1 : -(2 ^ b : Int) ≤ n ∧ n < (2 ^ b : Int)) (h2 : b = 0 ∨ n < -(2 ^ (b - 1) : Int) ∨ (2 ^ (b - 1) : Int) ≤ n) (hb : b + 1 ≤ 7 * k) (hk : 0 < k) :
    (putS k n).length = (b + 1 + 6) / 7 := by
  induction k generalizing n b with
  | zero => omega
  | succ k ih =>
    simp only [putS]
    split
    · rename_i hn
      have : b ≤ 6 := by
        rcases h2 with h2 | h2
        · omega
        · rcases Nat.lt_or_ge 6 b with h3 | h3
          · have : (2 : Int) ^ 6 ≤ 2 ^ (b - 1) := by exact_mod_cast Nat.pow_le_pow_right (show 0 < 2 by decide) (show 6 ≤ b - 1 by omega)
            omega
          · exact h3
      simp only [List.length_singleton]
      omega
    · rename_i hn
      have hb7 : 6 < b := by
        rcases Nat.lt_or_ge 6 b with h3 | h3
        · exact h3
        · have : (2 : Int) ^ b ≤ 2 ^ 6 := by exact_mod_cast Nat.pow_le_pow_right (show 0 < 2 by decide) h3
          omega
      obtain ⟨c, rfl⟩ : ∃ c, b = c + 7 := ⟨b - 7, by omega⟩
      have e : (2 : Int) ^ (c + 7) = 128 * 2 ^ c := by rw [Int.pow_add]; omega
      have := ih (n / 128) c (by omega) (by
        rcases Nat.eq_zero_or_pos c with h0 | h0
        · exact .inl h0
        · right
          obtain ⟨d, rfl⟩ : ∃ d, c = d + 1 := ⟨c - 1, by omega⟩
          have e2 : (2 : Int) ^ (d + 1 + 7 - 1) = 128 * 2 ^ d := by rw [show d + 1 + 7 - 1 = d + 7 by omega, Int.pow_add]; omega
          rw [e2] at h2
          simp only [Nat.add_sub_cancel]
          omega) (by omega) (by omega)
      simp only [List.length_cons, this]
      omega
end Go.Proofs.Ytckigiemeimheaa.Leb
