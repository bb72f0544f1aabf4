/-
  The walk of NumShifts: it answers true. No condition beyond what the theorem names.
-/
import Derived.Test.YtebikmnegemggaaDoorNumVals
namespace Go.Proofs.YtebikmnegemggaaDoor.Num
open Go.RowKit
set_option linter.unusedVariables false

theorem sar_range (x : Int) (k : Nat) (M : Int) (hM : 0 < M) (h1 : -M ≤ x) (h2 : x < M) : -M ≤ x / 2 ^ k ∧ x / 2 ^ k < M := by
  have hp : (0 : Int) < 2 ^ k := Int.pow_pos (by decide)
  constructor
  · apply Int.le_ediv_of_mul_le hp
    have : M * 1 ≤ M * 2 ^ k := Int.mul_le_mul_of_nonneg_left (by omega) (by omega)
    rw [Int.neg_mul]
    omega
  · apply Int.ediv_lt_of_lt_mul hp
    have : M * 1 ≤ M * 2 ^ k := Int.mul_le_mul_of_nonneg_left (by omega) (by omega)
    omega

set_option maxRecDepth 100000 in
set_option maxHeartbeats 1000000 in
theorem shifts_walk (a n : Nat) (w : World) (ha : a < 18446744073709551616) (hn : n < 256) :
    Calls Tryd.prog 11 #[.int .u64 a, .int .u8 n] w fun e w' => e = .returned (.bool true) ∧ Below w.heap.size w w' := by
  obtain ⟨k, hk⟩ : ∃ k : Nat, (n : Int) % 64 = (k : Int) := ⟨n % 64, by omega⟩
  obtain ⟨j, hj⟩ : ∃ j : Nat, (n : Int) % 32 = (j : Int) := ⟨n % 32, by omega⟩
  obtain ⟨l, hl⟩ : ∃ l : Nat, (a : Int) % 4294967296 = (l : Int) := ⟨a % 4294967296, by omega⟩
  have hk2 : k < 64 := by omega
  have hj2 : j < 32 := by omega
  have hwk : IntKind.u64.wrap (k : Int) = (k : Int) := by rw [IntKind.wrap_u64]; omega
  have hwj : IntKind.u64.wrap (j : Int) = (j : Int) := by rw [IntKind.wrap_u64]; omega
  have HL := Lib.hid (show l < 4294967296 by omega)
  have E1 := Lib.hid (show (twoA 135 a k).1 = IntKind.u64.wrap (wrap64 (a : Int) / 2 ^ k) by
    rw [twoA_r64 11 a k (by decide) _ (by decide), r64_p 11 _ _ (by decide) (by decide) (by decide) (by decide)]
    show IntKind.u64.wrap (wrap64 (a : Int) / 2 ^ (k % 64)) = _
    rw [Nat.mod_eq_of_lt hk2])
  have q1 : wrap64 (IntKind.u64.wrap (wrap64 (a : Int) / 2 ^ k)) = wrap64 (a : Int) / 2 ^ k := by
    have h1 : -9223372036854775808 ≤ wrap64 (a : Int) ∧ wrap64 (a : Int) < 9223372036854775808 := by unfold wrap64; omega
    have h2 := sar_range (wrap64 (a : Int)) k 9223372036854775808 (by omega) h1.1 h1.2
    rw [IntKind.wrap_u64]
    generalize wrap64 (a : Int) / 2 ^ k = z at *
    unfold wrap64
    omega
  have E2 := Lib.hid (show (twoA 134 a k).1 = IntKind.u64.wrap ((a : Int) * 2 ^ k) by
    rw [twoA_r64 10 a k (by decide) _ (by decide), r64_p 10 _ _ (by decide) (by decide) (by decide) (by decide)]
    show IntKind.u64.wrap ((a : Int) * 2 ^ (k % 64)) = _
    rw [Nat.mod_eq_of_lt hk2])
  have E3 := Lib.hid (show (twoA 136 a k).1 = (a : Int) / 2 ^ k by
    rw [twoA_r64 12 a k (by decide) _ (by decide), r64_p 12 _ _ (by decide) (by decide) (by decide) (by decide)]
    show (a : Int) / 2 ^ (k % 64) = _
    rw [Nat.mod_eq_of_lt hk2])
  have hl4 : l < 4294967296 := HL.out
  have E4 := Lib.hid (show (twoA 117 l j).1 = wrap32 (l : Int) / 2 ^ j % 4294967296 by
    rw [twoA_r32 11 l j (by decide) _ (by decide), r32_p 11 _ _ (by decide) (by decide) (by decide) (by decide), Nat.mod_eq_of_lt hl4, Nat.mod_eq_of_lt (show j < 4294967296 by omega)]
    show wrap32 (l : Int) / 2 ^ (j % 32) % 4294967296 = _
    rw [Nat.mod_eq_of_lt hj2])
  obtain ⟨z, hz⟩ : ∃ z, wrap32 (l : Int) / 2 ^ j = z := ⟨_, rfl⟩
  have hzr : -2147483648 ≤ z ∧ z < 2147483648 := by
    have h1 : -2147483648 ≤ wrap32 (l : Int) ∧ wrap32 (l : Int) < 2147483648 := by unfold wrap32; omega
    rw [← hz]
    exact sar_range (wrap32 (l : Int)) j 2147483648 (by omega) h1.1 h1.2
  rw [hz] at E4
  have q4 : wrap32 (z % 4294967296) = z := by unfold wrap32; omega
  have HZR := Lib.hid hzr
  clear hzr
  have ql : (l : Int) % 4294967296 = (l : Int) := by omega
  have E5 := Lib.hid (show (twoA 118 l j).1 = (l : Int) / 2 ^ j by
    rw [v32_shru l j hl4 (by omega), Nat.mod_eq_of_lt hj2, Int.natCast_ediv, Int.natCast_pow]
    rfl)
  obtain ⟨K, hK⟩ : ∃ K : Nat, K = 2 ^ k := ⟨_, rfl⟩
  have hK2 : K < 18446744073709551616 := by
    have : (2 : Nat) ^ k ≤ 2 ^ 63 := Nat.pow_le_pow_right (by decide) (by omega)
    omega
  have qk : IntKind.u64.wrap (2 ^ k) = (K : Int) := by rw [pow2c, ← hK, IntKind.wrap_u64]; omega
  have E6 := Lib.hid (show (twoA 126 a K).1 = IntKind.u64.wrap ((a : Int) * 2 ^ k) by
    rw [twoA_r64 2 a K (by decide) _ (by decide), r64_p 2 _ _ (by decide) (by decide) (by decide) (by decide), pow2c, ← hK]
    rfl)
  have HK := Lib.hid hK2
  clear hK hK2 hl4
  have HA := Lib.hid ha
  clear ha hn
  go_enter Tryd.func11, Tryd.ntmps11
  go_wp2_with fail
  refine (examples_any _).mono ?_
  rintro e w0 ⟨rfl, b0⟩
  go_wp2_with fail
  refine (law_two 135 a k _ HA.out (by omega) (by decide)).mono ?_
  rintro e w1 ⟨rfl, c1⟩
  have b1 := b0.trans (c1.mono b0.size)
  rw [E1.out]
  go_wp2_with fail
  refine (law_two 134 a k _ HA.out (by omega) (by decide)).mono ?_
  rintro e w2 ⟨rfl, c2⟩
  have b2 := b1.trans (c2.mono b1.size)
  rw [E2.out]
  go_wp2_with fail
  refine (law_two 136 a k _ HA.out (by omega) (by decide)).mono ?_
  rintro e w3 ⟨rfl, c3⟩
  have b3 := b2.trans (c3.mono b2.size)
  rw [E3.out]
  go_wp2_with fail
  refine (law_two 117 l j _ (by have := HL.out; omega) (by omega) (by decide)).mono ?_
  rintro e w4 ⟨rfl, c4⟩
  have b4 := b3.trans (c4.mono b3.size)
  rw [E4.out]
  go_wp2_with fail
  refine (law_two 118 l j _ (by have := HL.out; omega) (by omega) (by decide)).mono ?_
  rintro e w5 ⟨rfl, c5⟩
  have b5 := b4.trans (c5.mono b4.size)
  rw [E5.out]
  go_wp2_with fail
  refine (law_two 126 a K _ HA.out HK.out (by decide)).mono ?_
  rintro e w6 ⟨rfl, c6⟩
  have b6 := b5.trans (c6.mono b5.size)
  rw [E6.out]
  go_wp2_with fail
  go_ret
  exact ⟨rfl, b6⟩
end Go.Proofs.YtebikmnegemggaaDoor.Num
