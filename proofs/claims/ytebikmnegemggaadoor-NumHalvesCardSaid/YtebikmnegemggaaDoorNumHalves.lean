/-
  The walk of NumHalves: it answers true. No condition beyond what the theorem names.
-/
import Derived.Test.YtebikmnegemggaaDoorNumDivVals
namespace Go.Proofs.YtebikmnegemggaaDoor.Num
open Go.RowKit
set_option linter.unusedVariables false

theorem emodl (x : Int) (i : Nat) (h : i ≤ 32) : (x % 4294967296) % 2 ^ i = x % 2 ^ i := by
  have : (2 : Int) ^ i ∣ 4294967296 := by
    refine ⟨2 ^ (32 - i), ?_⟩
    rw [← Int.pow_add, show i + (32 - i) = 32 by omega]
    rfl
  exact Int.emod_emod_of_dvd x this
/-- what is answered of two numbers of 32 bits has 32 bits -/
theorem r32_lt (k c d : Nat) (hk : k < 15) (hc : c < 4294967296) (hd : d < 4294967296) : 0 ≤ (r32 k c d).1 ∧ (r32 k c d).1 < 4294967296 := by
  have hdiv : ∀ q, 0 ≤ (divR32 q).1 ∧ (divR32 q).1 < 4294967296 := by
    intro q; unfold divR32
    split
    · exact ⟨Int.emod_nonneg _ (by decide), Int.emod_lt_of_pos _ (by decide)⟩
    · exact ⟨by decide, by decide⟩
  rcases (show k = 0 ∨ k = 1 ∨ k = 2 ∨ k = 3 ∨ k = 4 ∨ k = 5 ∨ k = 6 ∨ k = 7 ∨ k = 8 ∨ k = 9 ∨ k = 10 ∨ k = 11 ∨ k = 12 ∨ k = 13 ∨ k = 14 by omega) with rfl | rfl | rfl | rfl | rfl | rfl | rfl | rfl | rfl | rfl | rfl | rfl | rfl | rfl | rfl
  all_goals first | (rw [r32_p _ c d (by decide) (by decide) (by decide) (by decide)]) | skip
  · show 0 ≤ ((c : Int) + d) % 4294967296 ∧ ((c : Int) + d) % 4294967296 < 4294967296; omega
  · show 0 ≤ ((c : Int) - d) % 4294967296 ∧ ((c : Int) - d) % 4294967296 < 4294967296; omega
  · exact ⟨Int.emod_nonneg _ (by decide), Int.emod_lt_of_pos _ (by decide)⟩
  · rw [r32_3]; exact hdiv _
  · rw [r32_4]
    by_cases h0 : (d : Int) = 0
    · rw [h0, divU_z]
      exact ⟨by decide, by decide⟩
    · rw [divU_q _ _ h0]
      have h1 := Int.ediv_nonneg (show (0 : Int) ≤ c by omega) (show (0 : Int) ≤ d by omega)
      have h2 := Int.ediv_le_self (d : Int) (show (0 : Int) ≤ c by omega)
      exact ⟨h1, by show (c : Int) / d < _; omega⟩
  · rw [r32_5]; exact hdiv _
  · rw [r32_6]
    by_cases h0 : (d : Int) = 0
    · rw [h0, divU_z]
      exact ⟨by decide, by decide⟩
    · rw [divU_r _ _ h0]
      have h1 := Int.emod_nonneg (c : Int) (show (d : Int) ≠ 0 by omega)
      have h2 := Int.emod_lt_of_pos (c : Int) (show (0 : Int) < d by omega)
      exact ⟨h1, by show (c : Int) % d < _; omega⟩
  · show 0 ≤ IntKind.u64.wrap (bits .and .u32 (c : Int) (d : Int)) ∧ IntKind.u64.wrap (bits .and .u32 (c : Int) (d : Int)) < _
    have h := (bits_nat .u32 32 (by decide) wraps_u32 c d hc hd).1
    have h2 : c &&& d < 2 ^ 32 := Nat.and_lt_two_pow _ hd
    rw [h, IntKind.wrap_u64]
    omega
  · show 0 ≤ IntKind.u64.wrap (bits .or .u32 (c : Int) (d : Int)) ∧ IntKind.u64.wrap (bits .or .u32 (c : Int) (d : Int)) < _
    have h := (bits_nat .u32 32 (by decide) wraps_u32 c d hc hd).2
    have h2 : c ||| d < 2 ^ 32 := Nat.or_lt_two_pow hc hd
    rw [h, IntKind.wrap_u64]
    omega
  · show 0 ≤ IntKind.u64.wrap (bits .xor .u32 (c : Int) (d : Int)) ∧ IntKind.u64.wrap (bits .xor .u32 (c : Int) (d : Int)) < _
    have h2 : c ^^^ d < 2 ^ 32 := Nat.xor_lt_two_pow hc hd
    rw [bits_xor_u32_nat c d hc hd, IntKind.wrap_u64]
    omega
  · show 0 ≤ (c : Int) * 2 ^ (d % 32) % 4294967296 ∧ (c : Int) * 2 ^ (d % 32) % 4294967296 < _
    exact ⟨Int.emod_nonneg _ (by decide), Int.emod_lt_of_pos _ (by decide)⟩
  · show 0 ≤ wrap32 c / 2 ^ (d % 32) % 4294967296 ∧ wrap32 c / 2 ^ (d % 32) % 4294967296 < _
    exact ⟨Int.emod_nonneg _ (by decide), Int.emod_lt_of_pos _ (by decide)⟩
  · show 0 ≤ IntKind.u64.wrap ((c : Int) / 2 ^ (d % 32)) ∧ IntKind.u64.wrap ((c : Int) / 2 ^ (d % 32)) < _
    have e : (c : Int) / 2 ^ (d % 32) = ((c / 2 ^ (d % 32) : Nat) : Int) := by rw [pow2c, Int.natCast_ediv]
    have := Nat.div_le_self c (2 ^ (d % 32))
    rw [e, IntKind.wrap_u64]
    generalize c / 2 ^ (d % 32) = q at *
    omega
  · show 0 ≤ IntKind.u64.wrap ((rotl 32 c (d % 32) : Nat) : Int) ∧ IntKind.u64.wrap ((rotl 32 c (d % 32) : Nat) : Int) < _
    have h := rotl32_lt c (d % 32) hc
    rw [IntKind.wrap_u64]
    omega
  · show 0 ≤ IntKind.u64.wrap ((rotl 32 c ((32 - d % 32) % 32) : Nat) : Int) ∧ IntKind.u64.wrap ((rotl 32 c ((32 - d % 32) % 32) : Nat) : Int) < _
    have h := rotl32_lt c ((32 - d % 32) % 32) hc
    rw [IntKind.wrap_u64]
    omega

theorem halves_vals (op : Int) (a b c d : Nat) (h : (70 ≤ op ∧ op < 80) ∨ (106 ≤ op ∧ op < 121)) (hc : a % 4294967296 = c) (hd : b % 4294967296 = d) :
    twoA op a b = twoA op c d ∧ 0 ≤ (twoA op a b).1 ∧ (twoA op a b).1 < 4294967296 := by
  have hc2 : c < 4294967296 := by omega
  have hd2 : d < 4294967296 := by omega
  subst hc
  subst hd
  refine ⟨?_, ?_⟩
  · unfold twoA
    rcases h with h | h
    · rw [if_pos h, if_pos h, Nat.mod_mod, Nat.mod_mod]
    · rw [if_neg (by omega), if_neg (by omega), if_pos h, if_neg (by omega), if_neg (by omega), if_pos h, Nat.mod_mod, Nat.mod_mod]
  · rcases h with h | h
    · unfold twoA
      rw [if_pos h]
      show 0 ≤ truthA _ ∧ truthA _ < _
      unfold truthA
      split <;> omega
    · rw [twoA_r32 (op - 106).toNat a b (by omega) op (by omega)]
      exact r32_lt _ _ _ (by omega) hc2 hd2

set_option maxRecDepth 100000 in
set_option maxHeartbeats 1000000 in
theorem halves_p0 (op : Int) (x y : Nat) (w : World) (h0 : 0 ≤ op) (h1 : -9223372036854775808 ≤ op) (h2 : op < 9223372036854775808) (hx : x < 18446744073709551616) (hy : y < 18446744073709551616) (hp : (op) % 2 = 0) :
    Calls Tryd.prog 9 #[.int .i64 op, .int .u64 x, .int .u64 y] w fun e w' => e = .returned (.bool true) ∧ Below w.heap.size w w' := by
  obtain ⟨c, hc⟩ : ∃ c, x % 4294967296 = c := ⟨_, rfl⟩
  obtain ⟨d, hd⟩ : ∃ d, y % 4294967296 = d := ⟨_, rfl⟩
  have HV := Lib.hid (halves_vals (70 + op % 10) x y c d (by omega) hc hd)
  have HC := Lib.hid (show c < 4294967296 by omega)
  have HD := Lib.hid (show d < 4294967296 by omega)
  have ex : (x : Int) % 4294967296 = (c : Int) := by omega
  have ey : (y : Int) % 4294967296 = (d : Int) := by omega
  have HX := Lib.hid hx
  have HY := Lib.hid hy
  clear hx hy hc hd
  go_enter Tryd.func9, Tryd.ntmps9
  go_wp2_with fail
  refine (examples_any _).mono ?_
  rintro e w0 ⟨rfl, b0⟩
  go_wp2_with fail
  refine (two_any _ x y _ HX.out HY.out (by omega)).mono ?_
  rintro e w1 ⟨rfl, c1⟩
  have b1 := (b0.alloc b0.size _).trans (c1.mono (b0.alloc b0.size _).size)
  obtain ⟨v, hv⟩ : ∃ v, twoA (70 + op % 10) x y = v := ⟨_, rfl⟩
  rw [hv]
  have HW := Lib.hid hv
  clear hv
  go_wp2_with fail
  refine (two_any _ c d _ (by have := HC.out; omega) (by have := HD.out; omega) (by omega)).mono ?_
  rintro e w2 ⟨rfl, c2⟩
  have b2 := b1.trans (c2.mono b1.size)
  rw [← HV.out.1, HW.out]
  have hr : 0 ≤ v.1 ∧ v.1 < 4294967296 := by rw [← HW.out]; exact HV.out.2
  obtain ⟨h3, h4⟩ := hr
  go_wp2_with fail
  go_ret
  exact ⟨rfl, b2⟩
set_option maxRecDepth 100000 in
set_option maxHeartbeats 1000000 in
theorem halves_p1 (op : Int) (x y : Nat) (w : World) (h0 : 0 ≤ op) (h1 : -9223372036854775808 ≤ op) (h2 : op < 9223372036854775808) (hx : x < 18446744073709551616) (hy : y < 18446744073709551616) (hp : (op) % 2 = 1) :
    Calls Tryd.prog 9 #[.int .i64 op, .int .u64 x, .int .u64 y] w fun e w' => e = .returned (.bool true) ∧ Below w.heap.size w w' := by
  obtain ⟨c, hc⟩ : ∃ c, x % 4294967296 = c := ⟨_, rfl⟩
  obtain ⟨d, hd⟩ : ∃ d, y % 4294967296 = d := ⟨_, rfl⟩
  have HV := Lib.hid (halves_vals (106 + op % 15) x y c d (by omega) hc hd)
  have HC := Lib.hid (show c < 4294967296 by omega)
  have HD := Lib.hid (show d < 4294967296 by omega)
  have ex : (x : Int) % 4294967296 = (c : Int) := by omega
  have ey : (y : Int) % 4294967296 = (d : Int) := by omega
  have HX := Lib.hid hx
  have HY := Lib.hid hy
  clear hx hy hc hd
  go_enter Tryd.func9, Tryd.ntmps9
  go_wp2_with fail
  refine (examples_any _).mono ?_
  rintro e w0 ⟨rfl, b0⟩
  go_wp2_with fail
  refine (two_any _ x y _ HX.out HY.out (by omega)).mono ?_
  rintro e w1 ⟨rfl, c1⟩
  have b1 := (b0.alloc b0.size _).trans (c1.mono (b0.alloc b0.size _).size)
  obtain ⟨v, hv⟩ : ∃ v, twoA (106 + op % 15) x y = v := ⟨_, rfl⟩
  rw [hv]
  have HW := Lib.hid hv
  clear hv
  go_wp2_with fail
  refine (two_any _ c d _ (by have := HC.out; omega) (by have := HD.out; omega) (by omega)).mono ?_
  rintro e w2 ⟨rfl, c2⟩
  have b2 := b1.trans (c2.mono b1.size)
  rw [← HV.out.1, HW.out]
  have hr : 0 ≤ v.1 ∧ v.1 < 4294967296 := by rw [← HW.out]; exact HV.out.2
  obtain ⟨h3, h4⟩ := hr
  go_wp2_with fail
  go_ret
  exact ⟨rfl, b2⟩
set_option maxRecDepth 100000 in
set_option maxHeartbeats 1000000 in
theorem halves_n0 (op : Int) (m : Nat) (x y : Nat) (w : World) (h0 : op < 0) (h1 : -9223372036854775808 ≤ op) (h2 : op < 9223372036854775808) (hx : x < 18446744073709551616) (hy : y < 18446744073709551616) (hm : -(op + 1) = (m : Int)) (hp : (m : Int) % 2 = 0) :
    Calls Tryd.prog 9 #[.int .i64 op, .int .u64 x, .int .u64 y] w fun e w' => e = .returned (.bool true) ∧ Below w.heap.size w w' := by
  obtain ⟨c, hc⟩ : ∃ c, x % 4294967296 = c := ⟨_, rfl⟩
  obtain ⟨d, hd⟩ : ∃ d, y % 4294967296 = d := ⟨_, rfl⟩
  have HV := Lib.hid (halves_vals (70 + (m : Int) % 10) x y c d (by omega) hc hd)
  have HC := Lib.hid (show c < 4294967296 by omega)
  have HD := Lib.hid (show d < 4294967296 by omega)
  have ex : (x : Int) % 4294967296 = (c : Int) := by omega
  have ey : (y : Int) % 4294967296 = (d : Int) := by omega
  have HX := Lib.hid hx
  have HY := Lib.hid hy
  clear hx hy hc hd
  go_enter Tryd.func9, Tryd.ntmps9
  go_wp2_with fail
  refine (examples_any _).mono ?_
  rintro e w0 ⟨rfl, b0⟩
  go_wp2_with fail
  refine (two_any _ x y _ HX.out HY.out (by omega)).mono ?_
  rintro e w1 ⟨rfl, c1⟩
  have b1 := (b0.alloc b0.size _).trans (c1.mono (b0.alloc b0.size _).size)
  obtain ⟨v, hv⟩ : ∃ v, twoA (70 + (m : Int) % 10) x y = v := ⟨_, rfl⟩
  rw [hv]
  have HW := Lib.hid hv
  clear hv
  go_wp2_with fail
  refine (two_any _ c d _ (by have := HC.out; omega) (by have := HD.out; omega) (by omega)).mono ?_
  rintro e w2 ⟨rfl, c2⟩
  have b2 := b1.trans (c2.mono b1.size)
  rw [← HV.out.1, HW.out]
  have hr : 0 ≤ v.1 ∧ v.1 < 4294967296 := by rw [← HW.out]; exact HV.out.2
  obtain ⟨h3, h4⟩ := hr
  go_wp2_with fail
  go_ret
  exact ⟨rfl, b2⟩
set_option maxRecDepth 100000 in
set_option maxHeartbeats 1000000 in
theorem halves_n1 (op : Int) (m : Nat) (x y : Nat) (w : World) (h0 : op < 0) (h1 : -9223372036854775808 ≤ op) (h2 : op < 9223372036854775808) (hx : x < 18446744073709551616) (hy : y < 18446744073709551616) (hm : -(op + 1) = (m : Int)) (hp : (m : Int) % 2 = 1) :
    Calls Tryd.prog 9 #[.int .i64 op, .int .u64 x, .int .u64 y] w fun e w' => e = .returned (.bool true) ∧ Below w.heap.size w w' := by
  obtain ⟨c, hc⟩ : ∃ c, x % 4294967296 = c := ⟨_, rfl⟩
  obtain ⟨d, hd⟩ : ∃ d, y % 4294967296 = d := ⟨_, rfl⟩
  have HV := Lib.hid (halves_vals (106 + (m : Int) % 15) x y c d (by omega) hc hd)
  have HC := Lib.hid (show c < 4294967296 by omega)
  have HD := Lib.hid (show d < 4294967296 by omega)
  have ex : (x : Int) % 4294967296 = (c : Int) := by omega
  have ey : (y : Int) % 4294967296 = (d : Int) := by omega
  have HX := Lib.hid hx
  have HY := Lib.hid hy
  clear hx hy hc hd
  go_enter Tryd.func9, Tryd.ntmps9
  go_wp2_with fail
  refine (examples_any _).mono ?_
  rintro e w0 ⟨rfl, b0⟩
  go_wp2_with fail
  refine (two_any _ x y _ HX.out HY.out (by omega)).mono ?_
  rintro e w1 ⟨rfl, c1⟩
  have b1 := (b0.alloc b0.size _).trans (c1.mono (b0.alloc b0.size _).size)
  obtain ⟨v, hv⟩ : ∃ v, twoA (106 + (m : Int) % 15) x y = v := ⟨_, rfl⟩
  rw [hv]
  have HW := Lib.hid hv
  clear hv
  go_wp2_with fail
  refine (two_any _ c d _ (by have := HC.out; omega) (by have := HD.out; omega) (by omega)).mono ?_
  rintro e w2 ⟨rfl, c2⟩
  have b2 := b1.trans (c2.mono b1.size)
  rw [← HV.out.1, HW.out]
  have hr : 0 ≤ v.1 ∧ v.1 < 4294967296 := by rw [← HW.out]; exact HV.out.2
  obtain ⟨h3, h4⟩ := hr
  go_wp2_with fail
  go_ret
  exact ⟨rfl, b2⟩
theorem halves_walk (op : Int) (x y : Nat) (w : World) (h1 : -9223372036854775808 ≤ op) (h2 : op < 9223372036854775808) (hx : x < 18446744073709551616) (hy : y < 18446744073709551616) :
    Calls Tryd.prog 9 #[.int .i64 op, .int .u64 x, .int .u64 y] w fun e w' => e = .returned (.bool true) ∧ Below w.heap.size w w' := by
  by_cases h0 : 0 ≤ op
  · rcases (show op % 2 = 0 ∨ op % 2 = 1 by omega) with h | h
    · exact halves_p0 op x y w h0 h1 h2 hx hy h
    · exact halves_p1 op x y w h0 h1 h2 hx hy h
  · obtain ⟨m, hm⟩ := Int.eq_ofNat_of_zero_le (show 0 ≤ -(op + 1) by omega)
    rcases (show (m : Int) % 2 = 0 ∨ (m : Int) % 2 = 1 by omega) with h | h
    · exact halves_n0 op m x y w (by omega) h1 h2 hx hy hm h
    · exact halves_n1 op m x y w (by omega) h1 h2 hx hy hm h
end Go.Proofs.YtebikmnegemggaaDoor.Num
