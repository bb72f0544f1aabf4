/-
  What the reference's bit and count of chapter 2 answer. No condition beyond what each theorem names.
-/
import Derived.Test.YtebikmnegemggaaDoorNumOneL
import Derived.Test.YtebikmnegemggaaDoorNumBits
namespace Go.Proofs.YtebikmnegemggaaDoor.Num
open Go.RowKit
set_option linter.unusedVariables false
theorem and1i (x : Int) : bits .and .i64 x 1 = x % 2 := and_mask_i64 x 1 (by decide)
theorem bit_t (a i : Nat) : bits .and .i64 (wrap64 ((a : Int) / 2 ^ i)) 1 = ((a / 2 ^ i % 2 : Nat) : Int) := by
  have e : (a : Int) / 2 ^ i = ((a / 2 ^ i : Nat) : Int) := by rw [show (2 : Int) ^ i = ((2 ^ i : Nat) : Int) by rw [Int.natCast_pow]; rfl, Int.natCast_ediv]
  rw [and1i, e]
  unfold wrap64
  omega
set_option maxHeartbeats 400000 in
theorem rbit_any (a i : Nat) (w : World) (hi : i < 64) : Calls Tryd.prog 52 #[.int .u64 a, .int .i64 i] w fun e w' => e = .returned (.int .i64 ((a / 2 ^ i % 2 : Nat) : Int)) ∧ w = w' := by
  have HB := Lib.hid (bit_t a i)
  go_enter Tryd.func52, Tryd.ntmps52
  go_wp2_with fail
  go_ret
  rw [← HB.out]
  exact ⟨rfl, rfl⟩
theorem rbit_v (a i b : Nat) (w : World) (hi : i < 64) (hb : a / 2 ^ i % 2 = b) : Calls Tryd.prog 52 #[.int .u64 a, .int .i64 i] w fun e w' => e = .returned (.int .i64 (b : Int)) ∧ w = w' := by
  rw [← hb]
  exact rbit_any a i w hi
theorem rbit_0 (a i : Nat) (w : World) (hi : i < 64) (hb : a / 2 ^ i % 2 = 0) : Calls Tryd.prog 52 #[.int .u64 a, .int .i64 i] w fun e w' => e = .returned (.int .i64 0) ∧ w = w' := rbit_v a i 0 w hi hb
theorem rbit_1 (a i : Nat) (w : World) (hi : i < 64) (hb : a / 2 ^ i % 2 = 1) : Calls Tryd.prog 52 #[.int .u64 a, .int .i64 i] w fun e w' => e = .returned (.int .i64 1) ∧ w = w' := rbit_v a i 1 w hi hb
theorem pc_succ (k a : Nat) : pc (k + 1) a = pc k a + a / 2 ^ k % 2 := by
  rw [pc_add]
  simp only [pc]
  omega
/-- the top bit of a number below 2^(i+1) -/
theorem top_0 (a i : Nat) (h : a < 2 ^ (i + 1)) (h0 : a / 2 ^ i % 2 = 0) : a < 2 ^ i := by
  rw [Nat.pow_succ] at h
  have h1 : a / 2 ^ i < 2 := Nat.div_lt_of_lt_mul h
  have h2 : a / 2 ^ i = 0 := by generalize a / 2 ^ i = q at *; omega
  rcases Nat.div_eq_zero_iff.1 h2 with h3 | h3
  · have := Nat.two_pow_pos i; omega
  · exact h3
theorem top_1 (a i : Nat) (h : a < 2 ^ (i + 1)) (hi : i < 64) (h1 : a / 2 ^ i % 2 = 1) : Lib.bitLen a = i + 1 := by
  have h0 : a ≠ 0 := by rintro rfl; simp at h1
  have hle : 2 ^ i ≤ a := by
    apply Nat.le_of_not_lt
    intro hlt
    rw [Nat.div_eq_of_lt hlt] at h1
    omega
  have h64 : a < 2 ^ 64 := Nat.lt_of_lt_of_le h (Nat.pow_le_pow_right (by decide) (by omega))
  obtain ⟨b1, b2, b3⟩ := Lib.bitLenAux_bounds 64 a h64 h0
  have e : Lib.bitLen a = Lib.bitLenAux 64 a := rfl
  rw [e]
  generalize Lib.bitLenAux 64 a = L at *
  have l1 : i < L := by
    apply Nat.lt_of_not_le
    intro hl
    have := Nat.pow_le_pow_right (show 0 < 2 by decide) hl
    omega
  have l2 : L - 1 < i + 1 := by
    apply Nat.lt_of_not_le
    intro hl
    have := Nat.pow_le_pow_right (show 0 < 2 by decide) hl
    omega
  omega
theorem low_0 (a i : Nat) (h : a % 2 ^ i = 0) (h0 : a / 2 ^ i % 2 = 0) : a % 2 ^ (i + 1) = 0 := by
  rw [Nat.pow_succ, Nat.mod_mul, h, h0]
  rfl
theorem pow_half (d : Nat) (h : 0 < d) : 2 ^ d = 2 * 2 ^ (d - 1) := by
  obtain ⟨c, rfl⟩ : ∃ c, d = c + 1 := ⟨d - 1, by omega⟩
  rw [Nat.pow_succ, Nat.mul_comm]
  rfl
theorem low_1 (a i N : Nat) (hN : a < 2 ^ N) (hi : i < N) (h : a % 2 ^ i = 0) (h1 : a / 2 ^ i % 2 = 1) : Lib.ctz N a = i := by
  have h0 : a ≠ 0 := by rintro rfl; simp at h1
  obtain ⟨m, hm, ht⟩ := Lib.ctzFrom_spec N a (by omega) hN
  have e : Lib.ctz N a = Lib.ctzFrom N a := by unfold Lib.ctz; rw [if_neg h0]
  rw [e]
  generalize Lib.ctzFrom N a = t at *
  have hda := Nat.div_add_mod a (2 ^ i)
  rw [h, Nat.add_zero] at hda
  have hmm : a / 2 ^ i = 2 * (a / 2 ^ i / 2) + 1 := by omega
  generalize a / 2 ^ i = q at *
  subst hda
  rcases Nat.lt_trichotomy t i with hlt | heq | hgt
  · exfalso
    have e1 : 2 ^ i = 2 ^ t * 2 ^ (i - t) := by rw [← Nat.pow_add, show t + (i - t) = i by omega]
    rw [e1, Nat.mul_assoc] at hm
    have h2 := Nat.eq_of_mul_eq_mul_left (Nat.two_pow_pos t) hm
    have e2 := pow_half (i - t) (by omega)
    rw [e2, Nat.mul_assoc] at h2
    omega
  · exact heq
  · exfalso
    have e1 : 2 ^ t = 2 ^ i * 2 ^ (t - i) := by rw [← Nat.pow_add, show i + (t - i) = t by omega]
    rw [e1, Nat.mul_assoc] at hm
    have h2 := Nat.eq_of_mul_eq_mul_left (Nat.two_pow_pos i) hm
    have e2 := pow_half (t - i) (by omega)
    rw [e2, Nat.mul_assoc] at h2
    omega

set_option maxRecDepth 100000 in
set_option maxHeartbeats 1000000 in
theorem count_2 (a N : Nat) (w : World) (hN : N ≤ 64) (ha : Hid (a < 2 ^ N)) : Calls Tryd.prog 22 #[.int .u64 a, .int .i64 N, .int .i64 2] w fun e w' => e = .returned (.int .u64 (pc N a : Nat)) ∧ w = w' := by
  go_enter Tryd.func22, Tryd.ntmps22
  go_wp2_with fail
  go_loop [8, 9] (fun o i => ∃ k : Nat, k ≤ N ∧ i = .int .i64 k ∧ o = .int .i64 (pc k a : Nat)) (fun _ i => N - (intOf i).toNat)
  case atStart => exact ⟨0, Nat.zero_le _, rfl, rfl⟩
  case round =>
    obtain ⟨k, hk, rfl, rfl⟩ := hrel
    by_cases hlt : k < N
    · obtain ⟨b, hb⟩ : ∃ b, a / 2 ^ k % 2 = b := ⟨_, rfl⟩
      have hb2 : b ≤ 1 := by omega
      have HB := Lib.hid hb
      have hl := pc_le k a
      obtain ⟨o, ho⟩ : ∃ o, pc k a = o := ⟨_, rfl⟩
      have HO := Lib.hid ho
      rw [ho] at hl ⊢
      clear hb ho
      go_wp2_with fail
      refine (rbit_v a k b _ (by omega) HB.out).mono ?_
      rintro e w' ⟨rfl, rfl⟩
      go_wp2_with fail
      go_round
      case rel => exact ⟨k + 1, by omega, by go_num, by rw [pc_succ, HO.out, HB.out]; go_num⟩
      case measure => simp [intOf]; omega
    · obtain rfl : k = N := by omega
      have hl := pc_le k a
      obtain ⟨o, ho⟩ : ∃ o, pc k a = o := ⟨_, rfl⟩
      have HO := Lib.hid ho
      rw [ho] at hl ⊢
      clear ho
      go_wp2_with fail
      go_ret
      rw [HO.out]
      exact ⟨rfl, rfl⟩

set_option maxRecDepth 100000 in
set_option maxHeartbeats 1000000 in
theorem count_0 (a N : Nat) (w : World) (hN : N ≤ 64) (ha : Hid (a < 2 ^ N)) : Calls Tryd.prog 22 #[.int .u64 a, .int .i64 N, .int .i64 0] w fun e w' => e = .returned (.int .u64 (N - Lib.bitLen a : Nat)) ∧ w = w' := by
  go_enter Tryd.func22, Tryd.ntmps22
  go_wp2_with fail
  go_loop [8, 9] (fun o i => ∃ k : Nat, k ≤ N ∧ i = .int .i64 k ∧ o = .int .i64 (pc k a : Nat)) (fun _ i => N - (intOf i).toNat)
  case atStart => exact ⟨0, Nat.zero_le _, rfl, rfl⟩
  case round =>
    obtain ⟨k, hk, rfl, rfl⟩ := hrel
    by_cases hlt : k < N
    · obtain ⟨b, hb⟩ : ∃ b, a / 2 ^ k % 2 = b := ⟨_, rfl⟩
      have hb2 : b ≤ 1 := by omega
      have HB := Lib.hid hb
      have hl := pc_le k a
      obtain ⟨o, ho⟩ : ∃ o, pc k a = o := ⟨_, rfl⟩
      have HO := Lib.hid ho
      rw [ho] at hl ⊢
      clear hb ho
      go_wp2_with fail
      refine (rbit_v a k b _ (by omega) HB.out).mono ?_
      rintro e w' ⟨rfl, rfl⟩
      go_wp2_with fail
      go_round
      case rel => exact ⟨k + 1, by omega, by go_num, by rw [pc_succ, HO.out, HB.out]; go_num⟩
      case measure => simp [intOf]; omega
    · obtain rfl : k = N := by omega
      have hl := pc_le k a
      obtain ⟨o, ho⟩ : ∃ o, pc k a = o := ⟨_, rfl⟩
      rw [ho] at hl ⊢
      clear ho
      go_wp2_with fail
      go_loop [7] (fun i => ∃ n : Nat, n ≤ k ∧ i = .int .i64 n ∧ a < 2 ^ (k - n)) (fun i => k - (intOf i).toNat)
      case atStart => exact ⟨0, Nat.zero_le _, rfl, by rw [Nat.sub_zero]; exact ha.out⟩
      case round =>
        obtain ⟨n, hn, rfl, hinv⟩ := hrel
        have HI := Lib.hid hinv
        clear hinv
        by_cases hn2 : n < k
        · obtain ⟨i, hi⟩ : ∃ i : Nat, (k : Int) - 1 - n = (i : Int) := ⟨k - 1 - n, by omega⟩
          have HX := Lib.hid (show i < 64 by omega)
          have HK := Lib.hid (show k - n = i + 1 by omega)
          rcases (show a / 2 ^ i % 2 = 0 ∨ a / 2 ^ i % 2 = 1 by omega) with hb | hb
          · have HB := Lib.hid hb
            clear hb
            go_wp2_with fail
            refine (rbit_0 a i _ HX.out HB.out).mono ?_
            rintro e w' ⟨rfl, rfl⟩
            go_wp2_with fail
            go_round
            case rel => exact ⟨n + 1, by omega, by go_num, by have h := HI.out; rw [HK.out] at h; have h2 := top_0 a i h HB.out; have h3 := HK.out; rw [show k - (n + 1) = i by omega]; exact h2⟩
            case measure => simp [intOf]; omega
          · have HB := Lib.hid hb
            clear hb
            go_wp2_with fail
            refine (rbit_1 a i _ HX.out HB.out).mono ?_
            rintro e w' ⟨rfl, rfl⟩
            go_wp2_with fail
            go_ret
            have hv := (show k - Lib.bitLen a = n by have h := HI.out; rw [HK.out] at h; have h2 := top_1 a i h HX.out HB.out; have h3 := HK.out; omega)
            rw [hv]
            exact ⟨rfl, rfl⟩
        · obtain rfl : n = k := by omega
          have hf : decide (n < n) = false := by simp
          go_wp2_with fail
          go_ret
          have hv := (show n - Lib.bitLen a = n by have h := HI.out; rw [Nat.sub_self] at h; have h2 : a = 0 := Nat.lt_one_iff.1 h; rw [h2]; rfl)
          rw [hv]
          exact ⟨rfl, rfl⟩

set_option maxRecDepth 100000 in
set_option maxHeartbeats 1000000 in
theorem count_1 (a N : Nat) (w : World) (hN : N ≤ 64) (ha : Hid (a < 2 ^ N)) : Calls Tryd.prog 22 #[.int .u64 a, .int .i64 N, .int .i64 1] w fun e w' => e = .returned (.int .u64 (Lib.ctz N a : Nat)) ∧ w = w' := by
  go_enter Tryd.func22, Tryd.ntmps22
  go_wp2_with fail
  go_loop [8, 9] (fun o i => ∃ k : Nat, k ≤ N ∧ i = .int .i64 k ∧ o = .int .i64 (pc k a : Nat)) (fun _ i => N - (intOf i).toNat)
  case atStart => exact ⟨0, Nat.zero_le _, rfl, rfl⟩
  case round =>
    obtain ⟨k, hk, rfl, rfl⟩ := hrel
    by_cases hlt : k < N
    · obtain ⟨b, hb⟩ : ∃ b, a / 2 ^ k % 2 = b := ⟨_, rfl⟩
      have hb2 : b ≤ 1 := by omega
      have HB := Lib.hid hb
      have hl := pc_le k a
      obtain ⟨o, ho⟩ : ∃ o, pc k a = o := ⟨_, rfl⟩
      have HO := Lib.hid ho
      rw [ho] at hl ⊢
      clear hb ho
      go_wp2_with fail
      refine (rbit_v a k b _ (by omega) HB.out).mono ?_
      rintro e w' ⟨rfl, rfl⟩
      go_wp2_with fail
      go_round
      case rel => exact ⟨k + 1, by omega, by go_num, by rw [pc_succ, HO.out, HB.out]; go_num⟩
      case measure => simp [intOf]; omega
    · obtain rfl : k = N := by omega
      have hl := pc_le k a
      obtain ⟨o, ho⟩ : ∃ o, pc k a = o := ⟨_, rfl⟩
      rw [ho] at hl ⊢
      clear ho
      go_wp2_with fail
      go_loop [7] (fun i => ∃ n : Nat, n ≤ k ∧ i = .int .i64 n ∧ a % 2 ^ n = 0) (fun i => k - (intOf i).toNat)
      case atStart => exact ⟨0, Nat.zero_le _, rfl, by rw [Nat.pow_zero, Nat.mod_one]⟩
      case round =>
        obtain ⟨n, hn, rfl, hinv⟩ := hrel
        have HI := Lib.hid hinv
        clear hinv
        by_cases hn2 : n < k
        · have HX := Lib.hid (show n < 64 by omega)
          rcases (show a / 2 ^ n % 2 = 0 ∨ a / 2 ^ n % 2 = 1 by omega) with hb | hb
          · have HB := Lib.hid hb
            clear hb
            go_wp2_with fail
            refine (rbit_0 a n _ HX.out HB.out).mono ?_
            rintro e w' ⟨rfl, rfl⟩
            go_wp2_with fail
            go_round
            case rel => exact ⟨n + 1, by omega, by go_num, by exact low_0 a n HI.out HB.out⟩
            case measure => simp [intOf]; omega
          · have HB := Lib.hid hb
            clear hb
            go_wp2_with fail
            refine (rbit_1 a n _ HX.out HB.out).mono ?_
            rintro e w' ⟨rfl, rfl⟩
            go_wp2_with fail
            go_ret
            have hv := (show Lib.ctz k a = n from low_1 a n k ha.out hn2 HI.out HB.out)
            rw [hv]
            exact ⟨rfl, rfl⟩
        · obtain rfl : n = k := by omega
          have hf : decide (n < n) = false := by simp
          go_wp2_with fail
          go_ret
          have hv := (show Lib.ctz n a = n by have h := HI.out; rw [Nat.mod_eq_of_lt ha.out] at h; rw [h]; rfl)
          rw [hv]
          exact ⟨rfl, rfl⟩
end Go.Proofs.YtebikmnegemggaaDoor.Num
