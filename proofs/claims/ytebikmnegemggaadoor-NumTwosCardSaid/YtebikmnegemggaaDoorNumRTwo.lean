/-
  What the reference's Two of chapter 2 answers. No condition beyond what each theorem names.
-/
import Derived.Test.YtebikmnegemggaaDoorNumRefTest
import Derived.Test.YtebikmnegemggaaDoorNumRefDiv
import Derived.Test.YtebikmnegemggaaDoorNumRefMov
namespace Go.Proofs.YtebikmnegemggaaDoor.Num
open Go.RowKit
set_option linter.unusedVariables false

theorem tb_high {a N j : Nat} (h : a < 2 ^ N) (hj : N ≤ j) : a.testBit j = false := Nat.testBit_lt_two_pow (Nat.lt_of_lt_of_le h (Nat.pow_le_pow_right (by decide) hj))
theorem mv_0 {a n N out : Nat} (ha : a < 2 ^ N) (hn : n < N) (h : Acc (src 0 N n a) N out) : out = a * 2 ^ n % 2 ^ N := by
  refine acc_end h (Nat.mod_lt _ (Nat.two_pow_pos N)) fun j hj => ?_
  unfold src
  rw [if_pos rfl, Nat.testBit_mod_two_pow, Nat.testBit_mul_two_pow]
  simp [hj]
theorem mv_2 {a n N out : Nat} (ha : a < 2 ^ N) (hn : n < N) (h : Acc (src 2 N n a) N out) : out = a / 2 ^ n := by
  refine acc_end h (Nat.lt_of_le_of_lt (Nat.div_le_self _ _) ha) fun j hj => ?_
  unfold src
  rw [if_neg (by decide), if_neg (by decide), if_pos rfl, Nat.testBit_div_two_pow]
  by_cases hv : j + n < N
  · simp [hv]
  · rw [tb_high ha (by omega)]
    simp
theorem mv_rot {a n N out : Nat} (f : Nat → Bool) (ha : a < 2 ^ N) (hn : n < N) (hf : ∀ j, j < N → f j = a.testBit ((j + N - n) % N)) (h : Acc f N out) : out = rotl N a n := by
  have hr : rotl N a n < 2 ^ N := Nat.or_lt_two_pow (Nat.mod_lt _ (Nat.two_pow_pos N)) (Nat.lt_of_le_of_lt (Nat.div_le_self _ _) ha)
  refine acc_end h hr fun j hj => ?_
  rw [hf j hj]
  unfold rotl
  rw [Nat.testBit_or, Nat.testBit_mod_two_pow, Nat.testBit_mul_two_pow, Nat.testBit_div_two_pow]
  by_cases hv : n ≤ j
  · rw [tb_high ha (show N ≤ j + (N - n) by omega), show (j + N - n) % N = j - n by rw [show j + N - n = j - n + N by omega, Nat.add_mod_right]; exact Nat.mod_eq_of_lt (by omega)]
    simp [hj, hv]
  · rw [show (j + N - n) % N = j + (N - n) by rw [Nat.mod_eq_of_lt (by omega)]; omega]
    simp [hj, hv]
theorem mv_3 {a n N out : Nat} (ha : a < 2 ^ N) (hn : n < N) (h : Acc (src 3 N n a) N out) : out = rotl N a n :=
  mv_rot _ ha hn (fun j hj => by unfold src; rw [if_neg (by decide), if_neg (by decide), if_neg (by decide), if_pos rfl]) h
theorem mv_4 {a n N out : Nat} (ha : a < 2 ^ N) (hn : n < N) (h : Acc (src 4 N n a) N out) : out = rotl N a ((N - n) % N) := by
  refine mv_rot _ ha (Nat.mod_lt _ (by omega)) (fun j hj => ?_) h
  unfold src
  rw [if_neg (by decide), if_neg (by decide), if_neg (by decide), if_neg (by decide)]
  congr 1
  by_cases h0 : n = 0
  · subst h0
    rw [Nat.sub_zero, Nat.mod_self, Nat.sub_zero, Nat.add_zero]
  · rw [Nat.mod_eq_of_lt (show N - n < N by omega), show j + N - (N - n) = j + n by omega, Nat.add_mod_right]
theorem mv_1p {a n N out : Nat} (hN : 0 < N) (ha : a < 2 ^ (N - 1)) (hn : n < N) (h : Acc (src 1 N n a) N out) : out = a / 2 ^ n := by
  have hlt : 2 ^ (N - 1) ≤ 2 ^ N := Nat.pow_le_pow_right (by decide) (by omega)
  refine acc_end h (Nat.lt_of_le_of_lt (Nat.div_le_self _ _) (by omega)) fun j hj => ?_
  unfold src
  rw [if_neg (by decide), if_pos rfl, Nat.testBit_div_two_pow]
  by_cases hv : j + n ≤ N - 1
  · rw [Nat.min_eq_left hv]
  · rw [Nat.min_eq_right (by omega), tb_high ha (by omega), tb_high ha (by omega)]
theorem mv_1n {a n N out : Nat} (hN : 0 < N) (ha : 2 ^ (N - 1) ≤ a) (ha2 : a < 2 ^ N) (hn : n < N) (h : Acc (src 1 N n a) N out) : out = 2 ^ (N - n) * (2 ^ n - 1) + a / 2 ^ n := by
  have e : 2 ^ N = 2 ^ (N - n) * 2 ^ n := by rw [← Nat.pow_add, show N - n + n = N by omega]
  have hq : a / 2 ^ n < 2 ^ (N - n) := by
    apply Nat.div_lt_of_lt_mul
    rw [Nat.mul_comm, ← e]
    exact ha2
  have hv : 2 ^ (N - n) * (2 ^ n - 1) + a / 2 ^ n < 2 ^ N := by
    have h1 : 2 ^ (N - n) * (2 ^ n - 1) + 2 ^ (N - n) = 2 ^ N := by
      rw [e, ← Nat.mul_succ]
      congr 1
      have := Nat.two_pow_pos n
      omega
    omega
  refine acc_end h hv fun j hj => ?_
  unfold src
  rw [if_neg (by decide), if_pos rfl, Nat.testBit_two_pow_mul_add _ hq]
  by_cases hv : j < N - n
  · rw [if_pos hv, Nat.testBit_div_two_pow, Nat.min_eq_left (by omega)]
  · rw [if_neg hv, Nat.min_eq_right (by omega), Nat.testBit_two_pow_sub_one]
    have ht : a.testBit (N - 1) = true := by
      apply tb_1
      have h1 : a / 2 ^ (N - 1) < 2 := by
        apply Nat.div_lt_of_lt_mul
        rw [← Nat.pow_succ, show (N - 1).succ = N by omega]
        exact ha2
      have h2 : 1 ≤ a / 2 ^ (N - 1) := (Nat.le_div_iff_mul_le (Nat.two_pow_pos _)).2 (by omega)
      omega
    rw [ht]
    simp
    omega
/-- divided by a power of two, towards below, a number below 0 -/
theorem sar_neg (a n N : Nat) (hn : n < N) (ha2 : a < 2 ^ N) : (((a : Int) - (2 ^ N : Nat)) / 2 ^ n) % (2 ^ N : Nat) = ((2 ^ (N - n) * (2 ^ n - 1) + a / 2 ^ n : Nat) : Int) := by
  have e : 2 ^ N = 2 ^ n * 2 ^ (N - n) := by rw [← Nat.pow_add, show n + (N - n) = N by omega]
  have h1 : ((a : Int) - (2 ^ N : Nat)) / 2 ^ n = ((a / 2 ^ n : Nat) : Int) - (2 ^ (N - n) : Nat) := by
    rw [e, pow2c, Int.natCast_mul, Int.sub_mul_ediv_left _ _ (by have := Nat.two_pow_pos n; omega), Int.natCast_ediv]
  have hq : a / 2 ^ n < 2 ^ (N - n) := by
    apply Nat.div_lt_of_lt_mul
    rw [← e]
    exact ha2
  have h2 : 2 ^ (N - n) * (2 ^ n - 1) + 2 ^ (N - n) = 2 ^ N := by
    rw [e, ← Nat.mul_succ, Nat.mul_comm]
    congr 1
    have := Nat.two_pow_pos n
    omega
  have h3 : 2 ^ (N - n) ≤ 2 ^ N := Nat.pow_le_pow_right (by decide) (by omega)
  rw [h1]
  generalize 2 ^ (N - n) * (2 ^ n - 1) = p at *
  generalize a / 2 ^ n = q at *
  generalize 2 ^ (N - n) = r at *
  generalize 2 ^ N = M at *
  rw [show (q : Int) - r = ((p + q : Nat) : Int) - (M : Int) by omega, Int.sub_emod_right]
  exact Int.emod_eq_of_lt (by omega) (by omega)

theorem mv_1_32 {a n out : Nat} (ha : a < 4294967296) (hn : n < 32) (h : Acc (src 1 32 n a) 32 out) : (out : Int) = (wrap32 (a : Int) / 2 ^ n) % 4294967296 := by
  by_cases hs : a < 2147483648
  · have e : wrap32 (a : Int) = (a : Int) := by unfold wrap32; omega
    have h1 := mv_1p (N := 32) (by decide) hs hn h
    rw [h1, e, pow2c, Int.natCast_ediv]
    rw [← Int.natCast_ediv]
    have := Nat.div_le_self a (2 ^ n)
    generalize a / 2 ^ n = q at *
    omega
  · have e : wrap32 (a : Int) = (a : Int) - (2 ^ 32 : Nat) := by
      rw [show (2 ^ 32 : Nat) = 4294967296 from rfl]
      unfold wrap32
      omega
    have h1 := mv_1n (N := 32) (by decide) (by omega) (by omega) hn h
    have h2 := sar_neg a n 32 hn (by omega)
    rw [h1, ← h2, e]
    rfl

theorem mv_1_64 {a n out : Nat} (ha : a < 18446744073709551616) (hn : n < 64) (h : Acc (src 1 64 n a) 64 out) : (out : Int) = (wrap64 (a : Int) / 2 ^ n) % 18446744073709551616 := by
  by_cases hs : a < 9223372036854775808
  · have e : wrap64 (a : Int) = (a : Int) := by unfold wrap64; omega
    have h1 := mv_1p (N := 64) (by decide) hs hn h
    rw [h1, e, pow2c, Int.natCast_ediv]
    rw [← Int.natCast_ediv]
    have := Nat.div_le_self a (2 ^ n)
    generalize a / 2 ^ n = q at *
    omega
  · have e : wrap64 (a : Int) = (a : Int) - (2 ^ 64 : Nat) := by
      rw [show (2 ^ 64 : Nat) = 18446744073709551616 from rfl]
      unfold wrap64
      omega
    have h1 := mv_1n (N := 64) (by decide) (by omega) (by omega) hn h
    have h2 := sar_neg a n 64 hn (by omega)
    rw [h1, ← h2, e]
    rfl

set_option maxRecDepth 100000 in
set_option maxHeartbeats 1000000 in
theorem rtwo_106 (a b c d : Nat) (w : World) (hc : a % 4294967296 = c) (hd : b % 4294967296 = d) (ha : c < 4294967296) (hb : d < 4294967296) :
    Calls Tryd.prog 17 #[.int .i64 106, .int .u64 a, .int .u64 b] w fun e w' => e = .returned (.tuple #[.int .u64 (twoA 106 a b).1, .int .i64 (twoA 106 a b).2]) ∧ w = w' := by
  have HE := Lib.hid (show twoA 106 a b = (((c : Int) + d) % 4294967296, 0) by rw [twoA_r32 0 a b (by decide) 106 (by decide), hc, hd, r32_p 0 _ _ (by decide) (by decide) (by decide) (by decide)]; rfl)
  obtain ⟨s, hs⟩ : ∃ s : Nat, (c + d) % 18446744073709551616 = s := ⟨_, rfl⟩
  have hs2 : IntKind.u64.wrap ((c : Int) + d) = (s : Int) := by rw [IntKind.wrap_u64]; omega
  obtain ⟨r, hr⟩ : ∃ r : Nat, s % 4294967296 = r := ⟨_, rfl⟩
  have HR := Lib.hid hr
  have HF := Lib.hid (show (r : Int) = ((c : Int) + d) % 4294967296 by omega)
  clear hs hr
  have HA := Lib.hid ha
  have HB := Lib.hid hb
  clear ha hb
  have HC := Lib.hid hc
  have HD := Lib.hid hd
  clear hc hd
  go_enter Tryd.func17, Tryd.ntmps17
  go_wp2_with fail
  refine (rcut_32 a c _ HC.out).mono ?_
  rintro e w' ⟨rfl, rfl⟩
  go_wp2_with fail
  refine (rcut_32 b d _ HD.out).mono ?_
  rintro e w' ⟨rfl, rfl⟩
  go_wp2_with fail
  refine (rcut_32 s r _ HR.out).mono ?_
  rintro e w' ⟨rfl, rfl⟩
  go_wp2_with fail
  go_ret2
  rw [HE.out]
  exact ⟨retE HF.out rfl, rfl⟩

set_option maxRecDepth 100000 in
set_option maxHeartbeats 1000000 in
theorem rtwo_107 (a b c d : Nat) (w : World) (hc : a % 4294967296 = c) (hd : b % 4294967296 = d) (ha : c < 4294967296) (hb : d < 4294967296) :
    Calls Tryd.prog 17 #[.int .i64 107, .int .u64 a, .int .u64 b] w fun e w' => e = .returned (.tuple #[.int .u64 (twoA 107 a b).1, .int .i64 (twoA 107 a b).2]) ∧ w = w' := by
  have HE := Lib.hid (show twoA 107 a b = (((c : Int) - d) % 4294967296, 0) by rw [twoA_r32 1 a b (by decide) 107 (by decide), hc, hd, r32_p 1 _ _ (by decide) (by decide) (by decide) (by decide)]; rfl)
  obtain ⟨s, hs⟩ : ∃ s : Nat, (c + (18446744073709551616 - d)) % 18446744073709551616 = s := ⟨_, rfl⟩
  have hs2 : IntKind.u64.wrap ((c : Int) - d) = (s : Int) := by rw [IntKind.wrap_u64]; omega
  obtain ⟨r, hr⟩ : ∃ r : Nat, s % 4294967296 = r := ⟨_, rfl⟩
  have HR := Lib.hid hr
  have HF := Lib.hid (show (r : Int) = ((c : Int) - d) % 4294967296 by omega)
  clear hs hr
  have HA := Lib.hid ha
  have HB := Lib.hid hb
  clear ha hb
  have HC := Lib.hid hc
  have HD := Lib.hid hd
  clear hc hd
  go_enter Tryd.func17, Tryd.ntmps17
  go_wp2_with fail
  refine (rcut_32 a c _ HC.out).mono ?_
  rintro e w' ⟨rfl, rfl⟩
  go_wp2_with fail
  refine (rcut_32 b d _ HD.out).mono ?_
  rintro e w' ⟨rfl, rfl⟩
  go_wp2_with fail
  refine (rcut_32 s r _ HR.out).mono ?_
  rintro e w' ⟨rfl, rfl⟩
  go_wp2_with fail
  go_ret2
  rw [HE.out]
  exact ⟨retE HF.out rfl, rfl⟩

set_option maxRecDepth 100000 in
set_option maxHeartbeats 1000000 in
theorem rtwo_108 (a b c d : Nat) (w : World) (hc : a % 4294967296 = c) (hd : b % 4294967296 = d) (ha : c < 4294967296) (hb : d < 4294967296) :
    Calls Tryd.prog 17 #[.int .i64 108, .int .u64 a, .int .u64 b] w fun e w' => e = .returned (.tuple #[.int .u64 (twoA 108 a b).1, .int .i64 (twoA 108 a b).2]) ∧ w = w' := by
  have HE := Lib.hid (show twoA 108 a b = (((c : Int) * d) % 4294967296, 0) by rw [twoA_r32 2 a b (by decide) 108 (by decide), hc, hd, r32_p 2 _ _ (by decide) (by decide) (by decide) (by decide)]; rfl)
  obtain ⟨s, hs⟩ : ∃ s : Nat, c * d % 18446744073709551616 = s := ⟨_, rfl⟩
  have hs2 : IntKind.u64.wrap ((c : Int) * d) = (s : Int) := by rw [IntKind.wrap_u64, ← Int.natCast_mul]; omega
  obtain ⟨r, hr⟩ : ∃ r : Nat, s % 4294967296 = r := ⟨_, rfl⟩
  have HR := Lib.hid hr
  have HF := Lib.hid (show (r : Int) = ((c : Int) * d) % 4294967296 by rw [← Int.natCast_mul]; omega)
  clear hs hr
  have HA := Lib.hid ha
  have HB := Lib.hid hb
  clear ha hb
  have HC := Lib.hid hc
  have HD := Lib.hid hd
  clear hc hd
  go_enter Tryd.func17, Tryd.ntmps17
  go_wp2_with fail
  refine (rcut_32 a c _ HC.out).mono ?_
  rintro e w' ⟨rfl, rfl⟩
  go_wp2_with fail
  refine (rcut_32 b d _ HD.out).mono ?_
  rintro e w' ⟨rfl, rfl⟩
  go_wp2_with fail
  refine (rcut_32 s r _ HR.out).mono ?_
  rintro e w' ⟨rfl, rfl⟩
  go_wp2_with fail
  go_ret2
  rw [HE.out]
  exact ⟨retE HF.out rfl, rfl⟩

set_option maxRecDepth 100000 in
set_option maxHeartbeats 1000000 in
theorem rtwo_113 (a b c d : Nat) (w : World) (hc : a % 4294967296 = c) (hd : b % 4294967296 = d) (ha : c < 4294967296) (hb : d < 4294967296) :
    Calls Tryd.prog 17 #[.int .i64 113, .int .u64 a, .int .u64 b] w fun e w' => e = .returned (.tuple #[.int .u64 (twoA 113 a b).1, .int .i64 (twoA 113 a b).2]) ∧ w = w' := by
  have HE := Lib.hid (show twoA 113 a b = (((c &&& d : Nat) : Int), 0) by rw [show twoA 113 a b = twoA 113 c d by rw [twoA_r32 7 a b (by decide) 113 (by decide), twoA_r32 7 c d (by decide) 113 (by decide), hc, hd, Nat.mod_eq_of_lt ha, Nat.mod_eq_of_lt hb]]; exact Prod.ext (v32_and c d ha hb) (by rw [twoA_r32 7 c d (by decide) 113 (by decide), r32_p 7 _ _ (by decide) (by decide) (by decide) (by decide)]; rfl))
  have hs2 : bits .and .u64 (c : Int) (d : Int) = ((c &&& d : Nat) : Int) := bits_and_u64_nat c d (by omega) (by omega)
  obtain ⟨s, hs⟩ : ∃ s : Nat, c &&& d = s := ⟨_, rfl⟩
  rw [hs] at HE hs2
  clear hs
  have HA := Lib.hid ha
  have HB := Lib.hid hb
  clear ha hb
  have HC := Lib.hid hc
  have HD := Lib.hid hd
  clear hc hd
  go_enter Tryd.func17, Tryd.ntmps17
  go_wp2_with fail
  refine (rcut_32 a c _ HC.out).mono ?_
  rintro e w' ⟨rfl, rfl⟩
  go_wp2_with fail
  refine (rcut_32 b d _ HD.out).mono ?_
  rintro e w' ⟨rfl, rfl⟩
  go_wp2_with fail
  go_ret2
  rw [HE.out]
  exact ⟨rfl, rfl⟩

set_option maxRecDepth 100000 in
set_option maxHeartbeats 1000000 in
theorem rtwo_114 (a b c d : Nat) (w : World) (hc : a % 4294967296 = c) (hd : b % 4294967296 = d) (ha : c < 4294967296) (hb : d < 4294967296) :
    Calls Tryd.prog 17 #[.int .i64 114, .int .u64 a, .int .u64 b] w fun e w' => e = .returned (.tuple #[.int .u64 (twoA 114 a b).1, .int .i64 (twoA 114 a b).2]) ∧ w = w' := by
  have HE := Lib.hid (show twoA 114 a b = (((c ||| d : Nat) : Int), 0) by rw [show twoA 114 a b = twoA 114 c d by rw [twoA_r32 8 a b (by decide) 114 (by decide), twoA_r32 8 c d (by decide) 114 (by decide), hc, hd, Nat.mod_eq_of_lt ha, Nat.mod_eq_of_lt hb]]; exact Prod.ext (v32_or c d ha hb) (by rw [twoA_r32 8 c d (by decide) 114 (by decide), r32_p 8 _ _ (by decide) (by decide) (by decide) (by decide)]; rfl))
  have hs2 : bits .or .u64 (c : Int) (d : Int) = ((c ||| d : Nat) : Int) := bits_or_u64_nat c d (by omega) (by omega)
  obtain ⟨s, hs⟩ : ∃ s : Nat, c ||| d = s := ⟨_, rfl⟩
  rw [hs] at HE hs2
  clear hs
  have HA := Lib.hid ha
  have HB := Lib.hid hb
  clear ha hb
  have HC := Lib.hid hc
  have HD := Lib.hid hd
  clear hc hd
  go_enter Tryd.func17, Tryd.ntmps17
  go_wp2_with fail
  refine (rcut_32 a c _ HC.out).mono ?_
  rintro e w' ⟨rfl, rfl⟩
  go_wp2_with fail
  refine (rcut_32 b d _ HD.out).mono ?_
  rintro e w' ⟨rfl, rfl⟩
  go_wp2_with fail
  go_ret2
  rw [HE.out]
  exact ⟨rfl, rfl⟩

set_option maxRecDepth 100000 in
set_option maxHeartbeats 1000000 in
theorem rtwo_115 (a b c d : Nat) (w : World) (hc : a % 4294967296 = c) (hd : b % 4294967296 = d) (ha : c < 4294967296) (hb : d < 4294967296) :
    Calls Tryd.prog 17 #[.int .i64 115, .int .u64 a, .int .u64 b] w fun e w' => e = .returned (.tuple #[.int .u64 (twoA 115 a b).1, .int .i64 (twoA 115 a b).2]) ∧ w = w' := by
  have HE := Lib.hid (show twoA 115 a b = (((c ^^^ d : Nat) : Int), 0) by rw [show twoA 115 a b = twoA 115 c d by rw [twoA_r32 9 a b (by decide) 115 (by decide), twoA_r32 9 c d (by decide) 115 (by decide), hc, hd, Nat.mod_eq_of_lt ha, Nat.mod_eq_of_lt hb]]; exact Prod.ext (v32_xor c d ha hb) (by rw [twoA_r32 9 c d (by decide) 115 (by decide), r32_p 9 _ _ (by decide) (by decide) (by decide) (by decide)]; rfl))
  have hs2 : bits .xor .u64 (c : Int) (d : Int) = ((c ^^^ d : Nat) : Int) := bits_xor_u64_nat c d (by omega) (by omega)
  obtain ⟨s, hs⟩ : ∃ s : Nat, c ^^^ d = s := ⟨_, rfl⟩
  rw [hs] at HE hs2
  clear hs
  have HA := Lib.hid ha
  have HB := Lib.hid hb
  clear ha hb
  have HC := Lib.hid hc
  have HD := Lib.hid hd
  clear hc hd
  go_enter Tryd.func17, Tryd.ntmps17
  go_wp2_with fail
  refine (rcut_32 a c _ HC.out).mono ?_
  rintro e w' ⟨rfl, rfl⟩
  go_wp2_with fail
  refine (rcut_32 b d _ HD.out).mono ?_
  rintro e w' ⟨rfl, rfl⟩
  go_wp2_with fail
  go_ret2
  rw [HE.out]
  exact ⟨rfl, rfl⟩

set_option maxRecDepth 100000 in
set_option maxHeartbeats 1000000 in
theorem rtwo_116 (a b c d : Nat) (w : World) (hc : a % 4294967296 = c) (hd : b % 4294967296 = d) (ha : c < 4294967296) (hb : d < 4294967296) :
    Calls Tryd.prog 17 #[.int .i64 116, .int .u64 a, .int .u64 b] w fun e w' => e = .returned (.tuple #[.int .u64 (twoA 116 a b).1, .int .i64 (twoA 116 a b).2]) ∧ w = w' := by
  obtain ⟨n, hn⟩ : ∃ n : Nat, d % 32 = n := ⟨_, rfl⟩
  have HN := Lib.hid hn
  have HN2 := Lib.hid (show (d : Int) % ((32 : Nat) : Int) = (n : Int) by omega)
  have HE := Lib.hid (show twoA 116 a b = r32p 10 c d by rw [twoA_r32 10 a b (by decide) 116 (by decide), hc, hd, r32_p 10 _ _ (by decide) (by decide) (by decide) (by decide)])
  clear hn
  have HA := Lib.hid ha
  have HB := Lib.hid hb
  clear ha hb
  have HC := Lib.hid hc
  have HD := Lib.hid hd
  clear hc hd
  go_enter Tryd.func17, Tryd.ntmps17
  go_wp2_with fail
  refine (rcut_32 a c _ HC.out).mono ?_
  rintro e w' ⟨rfl, rfl⟩
  go_wp2_with fail
  refine (rcut_32 b d _ HD.out).mono ?_
  rintro e w' ⟨rfl, rfl⟩
  go_wp2_with fail
  refine (moved_0 c d n 32 _ (by decide) (by decide) HN2.out (by have := HN.out; omega)).mono ?_
  rintro e w' ⟨⟨out, hacc, rfl⟩, rfl⟩
  have HAC := Lib.hid hacc
  clear hacc
  go_wp2_with fail
  go_ret2
  have hv := mv_0 (show c < 2 ^ 32 by have := HA.out; omega) (show n < 32 by have := HN.out; omega) HAC.out
  rw [HE.out]
  refine ⟨retE (?_ : (out : Int) = (c : Int) * 2 ^ (d % 32) % 4294967296) rfl, rfl⟩
  rw [HN.out, hv, pow2c, ← Int.natCast_mul]
  rfl

set_option maxRecDepth 100000 in
set_option maxHeartbeats 1000000 in
theorem rtwo_117 (a b c d : Nat) (w : World) (hc : a % 4294967296 = c) (hd : b % 4294967296 = d) (ha : c < 4294967296) (hb : d < 4294967296) :
    Calls Tryd.prog 17 #[.int .i64 117, .int .u64 a, .int .u64 b] w fun e w' => e = .returned (.tuple #[.int .u64 (twoA 117 a b).1, .int .i64 (twoA 117 a b).2]) ∧ w = w' := by
  obtain ⟨n, hn⟩ : ∃ n : Nat, d % 32 = n := ⟨_, rfl⟩
  have HN := Lib.hid hn
  have HN2 := Lib.hid (show (d : Int) % ((32 : Nat) : Int) = (n : Int) by omega)
  have HE := Lib.hid (show twoA 117 a b = r32p 11 c d by rw [twoA_r32 11 a b (by decide) 117 (by decide), hc, hd, r32_p 11 _ _ (by decide) (by decide) (by decide) (by decide)])
  clear hn
  have HA := Lib.hid ha
  have HB := Lib.hid hb
  clear ha hb
  have HC := Lib.hid hc
  have HD := Lib.hid hd
  clear hc hd
  go_enter Tryd.func17, Tryd.ntmps17
  go_wp2_with fail
  refine (rcut_32 a c _ HC.out).mono ?_
  rintro e w' ⟨rfl, rfl⟩
  go_wp2_with fail
  refine (rcut_32 b d _ HD.out).mono ?_
  rintro e w' ⟨rfl, rfl⟩
  go_wp2_with fail
  refine (moved_1 c d n 32 _ (by decide) (by decide) HN2.out (by have := HN.out; omega)).mono ?_
  rintro e w' ⟨⟨out, hacc, rfl⟩, rfl⟩
  have HAC := Lib.hid hacc
  clear hacc
  go_wp2_with fail
  go_ret2
  have hv := mv_1_32 HA.out (show n < 32 by have := HN.out; omega) HAC.out
  rw [HE.out]
  refine ⟨retE (?_ : (out : Int) = wrap32 (c : Int) / 2 ^ (d % 32) % 4294967296) rfl, rfl⟩
  rw [HN.out, hv]

set_option maxRecDepth 100000 in
set_option maxHeartbeats 1000000 in
theorem rtwo_118 (a b c d : Nat) (w : World) (hc : a % 4294967296 = c) (hd : b % 4294967296 = d) (ha : c < 4294967296) (hb : d < 4294967296) :
    Calls Tryd.prog 17 #[.int .i64 118, .int .u64 a, .int .u64 b] w fun e w' => e = .returned (.tuple #[.int .u64 (twoA 118 a b).1, .int .i64 (twoA 118 a b).2]) ∧ w = w' := by
  obtain ⟨n, hn⟩ : ∃ n : Nat, d % 32 = n := ⟨_, rfl⟩
  have HN := Lib.hid hn
  have HN2 := Lib.hid (show (d : Int) % ((32 : Nat) : Int) = (n : Int) by omega)
  have HE := Lib.hid (show twoA 118 a b = r32p 12 c d by rw [twoA_r32 12 a b (by decide) 118 (by decide), hc, hd, r32_p 12 _ _ (by decide) (by decide) (by decide) (by decide)])
  clear hn
  have HA := Lib.hid ha
  have HB := Lib.hid hb
  clear ha hb
  have HC := Lib.hid hc
  have HD := Lib.hid hd
  clear hc hd
  go_enter Tryd.func17, Tryd.ntmps17
  go_wp2_with fail
  refine (rcut_32 a c _ HC.out).mono ?_
  rintro e w' ⟨rfl, rfl⟩
  go_wp2_with fail
  refine (rcut_32 b d _ HD.out).mono ?_
  rintro e w' ⟨rfl, rfl⟩
  go_wp2_with fail
  refine (moved_2 c d n 32 _ (by decide) (by decide) HN2.out (by have := HN.out; omega)).mono ?_
  rintro e w' ⟨⟨out, hacc, rfl⟩, rfl⟩
  have HAC := Lib.hid hacc
  clear hacc
  go_wp2_with fail
  go_ret2
  have hv := mv_2 (show c < 2 ^ 32 by have := HA.out; omega) (show n < 32 by have := HN.out; omega) HAC.out
  rw [HE.out]
  refine ⟨retE (?_ : (out : Int) = IntKind.u64.wrap ((c : Int) / 2 ^ (d % 32))) rfl, rfl⟩
  have h9 := Nat.div_le_self c (2 ^ n)
  have h8 := HA.out
  rw [HN.out, hv, pow2c, ← Int.natCast_ediv, IntKind.wrap_u64]
  generalize c / 2 ^ n = q at *
  omega

set_option maxRecDepth 100000 in
set_option maxHeartbeats 1000000 in
theorem rtwo_119 (a b c d : Nat) (w : World) (hc : a % 4294967296 = c) (hd : b % 4294967296 = d) (ha : c < 4294967296) (hb : d < 4294967296) :
    Calls Tryd.prog 17 #[.int .i64 119, .int .u64 a, .int .u64 b] w fun e w' => e = .returned (.tuple #[.int .u64 (twoA 119 a b).1, .int .i64 (twoA 119 a b).2]) ∧ w = w' := by
  obtain ⟨n, hn⟩ : ∃ n : Nat, d % 32 = n := ⟨_, rfl⟩
  have HN := Lib.hid hn
  have HN2 := Lib.hid (show (d : Int) % ((32 : Nat) : Int) = (n : Int) by omega)
  have HE := Lib.hid (show twoA 119 a b = r32p 13 c d by rw [twoA_r32 13 a b (by decide) 119 (by decide), hc, hd, r32_p 13 _ _ (by decide) (by decide) (by decide) (by decide)])
  clear hn
  have HA := Lib.hid ha
  have HB := Lib.hid hb
  clear ha hb
  have HC := Lib.hid hc
  have HD := Lib.hid hd
  clear hc hd
  go_enter Tryd.func17, Tryd.ntmps17
  go_wp2_with fail
  refine (rcut_32 a c _ HC.out).mono ?_
  rintro e w' ⟨rfl, rfl⟩
  go_wp2_with fail
  refine (rcut_32 b d _ HD.out).mono ?_
  rintro e w' ⟨rfl, rfl⟩
  go_wp2_with fail
  refine (moved_3 c d n 32 _ (by decide) (by decide) HN2.out (by have := HN.out; omega)).mono ?_
  rintro e w' ⟨⟨out, hacc, rfl⟩, rfl⟩
  have HAC := Lib.hid hacc
  clear hacc
  go_wp2_with fail
  go_ret2
  have hv := mv_3 (show c < 2 ^ 32 by have := HA.out; omega) (show n < 32 by have := HN.out; omega) HAC.out
  rw [HE.out]
  refine ⟨retE (?_ : (out : Int) = IntKind.u64.wrap ((rotl 32 c (d % 32) : Nat) : Int)) rfl, rfl⟩
  have h9 := rotl32_lt c n HA.out
  rw [HN.out, hv, IntKind.wrap_u64]
  omega

set_option maxRecDepth 100000 in
set_option maxHeartbeats 1000000 in
theorem rtwo_120 (a b c d : Nat) (w : World) (hc : a % 4294967296 = c) (hd : b % 4294967296 = d) (ha : c < 4294967296) (hb : d < 4294967296) :
    Calls Tryd.prog 17 #[.int .i64 120, .int .u64 a, .int .u64 b] w fun e w' => e = .returned (.tuple #[.int .u64 (twoA 120 a b).1, .int .i64 (twoA 120 a b).2]) ∧ w = w' := by
  obtain ⟨n, hn⟩ : ∃ n : Nat, d % 32 = n := ⟨_, rfl⟩
  have HN := Lib.hid hn
  have HN2 := Lib.hid (show (d : Int) % ((32 : Nat) : Int) = (n : Int) by omega)
  have HE := Lib.hid (show twoA 120 a b = r32p 14 c d by rw [twoA_r32 14 a b (by decide) 120 (by decide), hc, hd, r32_p 14 _ _ (by decide) (by decide) (by decide) (by decide)])
  clear hn
  have HA := Lib.hid ha
  have HB := Lib.hid hb
  clear ha hb
  have HC := Lib.hid hc
  have HD := Lib.hid hd
  clear hc hd
  go_enter Tryd.func17, Tryd.ntmps17
  go_wp2_with fail
  refine (rcut_32 a c _ HC.out).mono ?_
  rintro e w' ⟨rfl, rfl⟩
  go_wp2_with fail
  refine (rcut_32 b d _ HD.out).mono ?_
  rintro e w' ⟨rfl, rfl⟩
  go_wp2_with fail
  refine (moved_4 c d n 32 _ (by decide) (by decide) HN2.out (by have := HN.out; omega)).mono ?_
  rintro e w' ⟨⟨out, hacc, rfl⟩, rfl⟩
  have HAC := Lib.hid hacc
  clear hacc
  go_wp2_with fail
  go_ret2
  have hv := mv_4 (show c < 2 ^ 32 by have := HA.out; omega) (show n < 32 by have := HN.out; omega) HAC.out
  rw [HE.out]
  refine ⟨retE (?_ : (out : Int) = IntKind.u64.wrap ((rotl 32 c ((32 - d % 32) % 32) : Nat) : Int)) rfl, rfl⟩
  have h9 := rotl32_lt c ((32 - n) % 32) HA.out
  rw [HN.out, hv, IntKind.wrap_u64]
  omega

set_option maxRecDepth 100000 in
set_option maxHeartbeats 1000000 in
theorem rtwo_109z3 (a b c d : Nat) (w : World) (hc : a % 4294967296 = c) (hd : b % 4294967296 = d) (ha : c < 4294967296) (hb : d < 4294967296) (h0 : d = 0) :
    Calls Tryd.prog 17 #[.int .i64 109, .int .u64 a, .int .u64 b] w fun e w' => e = .returned (.tuple #[.int .u64 (twoA 109 a b).1, .int .i64 (twoA 109 a b).2]) ∧ w = w' := by
  have HE := Lib.hid (show twoA 109 a b = (0, 6) by rw [show twoA 109 a b = twoA 109 c d by rw [twoA_r32 3 a b (by decide) 109 (by decide), twoA_r32 3 c d (by decide) 109 (by decide), hc, hd, Nat.mod_eq_of_lt ha, Nat.mod_eq_of_lt hb]]; rw [h0]; exact (sz32 c ha).1)
  have H0 := Lib.hid h0
  clear h0
  have HA := Lib.hid ha
  have HB := Lib.hid hb
  clear ha hb
  have HC := Lib.hid hc
  have HD := Lib.hid hd
  clear hc hd
  go_enter Tryd.func17, Tryd.ntmps17
  go_wp2_with fail
  refine (rcut_32 a c _ HC.out).mono ?_
  rintro e w' ⟨rfl, rfl⟩
  go_wp2_with fail
  refine (rcut_32 b d _ HD.out).mono ?_
  rintro e w' ⟨rfl, rfl⟩
  go_wp2_with fail
  refine (rdiv32_z0 c d _ _ _ HA.out HB.out rfl rfl H0.out).mono ?_
  rintro e w' ⟨rfl, rfl⟩
  go_wp2_with fail
  go_ret2
  rw [HE.out]
  exact ⟨rfl, rfl⟩

set_option maxRecDepth 100000 in
set_option maxHeartbeats 1000000 in
theorem rtwo_110z4 (a b c d : Nat) (w : World) (hc : a % 4294967296 = c) (hd : b % 4294967296 = d) (ha : c < 4294967296) (hb : d < 4294967296) (h0 : d = 0) :
    Calls Tryd.prog 17 #[.int .i64 110, .int .u64 a, .int .u64 b] w fun e w' => e = .returned (.tuple #[.int .u64 (twoA 110 a b).1, .int .i64 (twoA 110 a b).2]) ∧ w = w' := by
  have HE := Lib.hid (show twoA 110 a b = (0, 6) by rw [show twoA 110 a b = twoA 110 c d by rw [twoA_r32 4 a b (by decide) 110 (by decide), twoA_r32 4 c d (by decide) 110 (by decide), hc, hd, Nat.mod_eq_of_lt ha, Nat.mod_eq_of_lt hb]]; rw [h0]; exact (uz32 c ha).1)
  have H0 := Lib.hid h0
  clear h0
  have HA := Lib.hid ha
  have HB := Lib.hid hb
  clear ha hb
  have HC := Lib.hid hc
  have HD := Lib.hid hd
  clear hc hd
  go_enter Tryd.func17, Tryd.ntmps17
  go_wp2_with fail
  refine (rcut_32 a c _ HC.out).mono ?_
  rintro e w' ⟨rfl, rfl⟩
  go_wp2_with fail
  refine (rcut_32 b d _ HD.out).mono ?_
  rintro e w' ⟨rfl, rfl⟩
  go_wp2_with fail
  refine (rdiv32_z1 c d _ _ _ HA.out HB.out rfl rfl H0.out).mono ?_
  rintro e w' ⟨rfl, rfl⟩
  go_wp2_with fail
  go_ret2
  rw [HE.out]
  exact ⟨rfl, rfl⟩

set_option maxRecDepth 100000 in
set_option maxHeartbeats 1000000 in
theorem rtwo_111z5 (a b c d : Nat) (w : World) (hc : a % 4294967296 = c) (hd : b % 4294967296 = d) (ha : c < 4294967296) (hb : d < 4294967296) (h0 : d = 0) :
    Calls Tryd.prog 17 #[.int .i64 111, .int .u64 a, .int .u64 b] w fun e w' => e = .returned (.tuple #[.int .u64 (twoA 111 a b).1, .int .i64 (twoA 111 a b).2]) ∧ w = w' := by
  have HE := Lib.hid (show twoA 111 a b = (0, 6) by rw [show twoA 111 a b = twoA 111 c d by rw [twoA_r32 5 a b (by decide) 111 (by decide), twoA_r32 5 c d (by decide) 111 (by decide), hc, hd, Nat.mod_eq_of_lt ha, Nat.mod_eq_of_lt hb]]; rw [h0]; exact (sz32 c ha).2)
  have H0 := Lib.hid h0
  clear h0
  have HA := Lib.hid ha
  have HB := Lib.hid hb
  clear ha hb
  have HC := Lib.hid hc
  have HD := Lib.hid hd
  clear hc hd
  go_enter Tryd.func17, Tryd.ntmps17
  go_wp2_with fail
  refine (rcut_32 a c _ HC.out).mono ?_
  rintro e w' ⟨rfl, rfl⟩
  go_wp2_with fail
  refine (rcut_32 b d _ HD.out).mono ?_
  rintro e w' ⟨rfl, rfl⟩
  go_wp2_with fail
  refine (rdiv32_z2 c d _ _ _ HA.out HB.out rfl rfl H0.out).mono ?_
  rintro e w' ⟨rfl, rfl⟩
  go_wp2_with fail
  go_ret2
  rw [HE.out]
  exact ⟨rfl, rfl⟩

set_option maxRecDepth 100000 in
set_option maxHeartbeats 1000000 in
theorem rtwo_112z6 (a b c d : Nat) (w : World) (hc : a % 4294967296 = c) (hd : b % 4294967296 = d) (ha : c < 4294967296) (hb : d < 4294967296) (h0 : d = 0) :
    Calls Tryd.prog 17 #[.int .i64 112, .int .u64 a, .int .u64 b] w fun e w' => e = .returned (.tuple #[.int .u64 (twoA 112 a b).1, .int .i64 (twoA 112 a b).2]) ∧ w = w' := by
  have HE := Lib.hid (show twoA 112 a b = (0, 6) by rw [show twoA 112 a b = twoA 112 c d by rw [twoA_r32 6 a b (by decide) 112 (by decide), twoA_r32 6 c d (by decide) 112 (by decide), hc, hd, Nat.mod_eq_of_lt ha, Nat.mod_eq_of_lt hb]]; rw [h0]; exact (uz32 c ha).2)
  have H0 := Lib.hid h0
  clear h0
  have HA := Lib.hid ha
  have HB := Lib.hid hb
  clear ha hb
  have HC := Lib.hid hc
  have HD := Lib.hid hd
  clear hc hd
  go_enter Tryd.func17, Tryd.ntmps17
  go_wp2_with fail
  refine (rcut_32 a c _ HC.out).mono ?_
  rintro e w' ⟨rfl, rfl⟩
  go_wp2_with fail
  refine (rcut_32 b d _ HD.out).mono ?_
  rintro e w' ⟨rfl, rfl⟩
  go_wp2_with fail
  refine (rdiv32_z3 c d _ _ _ HA.out HB.out rfl rfl H0.out).mono ?_
  rintro e w' ⟨rfl, rfl⟩
  go_wp2_with fail
  go_ret2
  rw [HE.out]
  exact ⟨rfl, rfl⟩

set_option maxRecDepth 100000 in
set_option maxHeartbeats 1000000 in
theorem rtwo_109l (a b c d : Nat) (w : World) (hc : a % 4294967296 = c) (hd : b % 4294967296 = d) (ha : c < 4294967296) (hb : d < 4294967296) (h0 : d ≠ 0) (hx : wrap32 (c : Int) = -2147483648) (hy : wrap32 (d : Int) = -1) :
    Calls Tryd.prog 17 #[.int .i64 109, .int .u64 a, .int .u64 b] w fun e w' => e = .returned (.tuple #[.int .u64 (twoA 109 a b).1, .int .i64 (twoA 109 a b).2]) ∧ w = w' := by
  have HE := Lib.hid (show twoA 109 a b = (0, 6) by rw [show twoA 109 a b = twoA 109 c d by rw [twoA_r32 3 a b (by decide) 109 (by decide), twoA_r32 3 c d (by decide) 109 (by decide), hc, hd, Nat.mod_eq_of_lt ha, Nat.mod_eq_of_lt hb]]; exact sl32 c d ha hb hx hy)
  have H0 := Lib.hid h0
  clear h0
  have HX := Lib.hid hx
  clear hx
  have HY := Lib.hid hy
  clear hy
  have HA := Lib.hid ha
  have HB := Lib.hid hb
  clear ha hb
  have HC := Lib.hid hc
  have HD := Lib.hid hd
  clear hc hd
  go_enter Tryd.func17, Tryd.ntmps17
  go_wp2_with fail
  refine (rcut_32 a c _ HC.out).mono ?_
  rintro e w' ⟨rfl, rfl⟩
  go_wp2_with fail
  refine (rcut_32 b d _ HD.out).mono ?_
  rintro e w' ⟨rfl, rfl⟩
  go_wp2_with fail
  refine (rdiv32_l c d _ _ _ HA.out HB.out rfl rfl H0.out HX.out HY.out).mono ?_
  rintro e w' ⟨rfl, rfl⟩
  go_wp2_with fail
  go_ret2
  rw [HE.out]
  exact ⟨rfl, rfl⟩

set_option maxRecDepth 100000 in
set_option maxHeartbeats 1000000 in
theorem rtwo_109m (a b c d : Nat) (w : World) (hc : a % 4294967296 = c) (hd : b % 4294967296 = d) (ha : c < 4294967296) (hb : d < 4294967296) (h0 : d ≠ 0) (hx : wrap32 (c : Int) ≠ -2147483648) (hy : wrap32 (d : Int) = -1) :
    Calls Tryd.prog 17 #[.int .i64 109, .int .u64 a, .int .u64 b] w fun e w' => e = .returned (.tuple #[.int .u64 (twoA 109 a b).1, .int .i64 (twoA 109 a b).2]) ∧ w = w' := by
  have HE := Lib.hid (show twoA 109 a b = ((wrap32 (c : Int)).tdiv (wrap32 (d : Int)) % 4294967296, 0) by rw [show twoA 109 a b = twoA 109 c d by rw [twoA_r32 3 a b (by decide) 109 (by decide), twoA_r32 3 c d (by decide) 109 (by decide), hc, hd, Nat.mod_eq_of_lt ha, Nat.mod_eq_of_lt hb]]; exact sq32 c d ha hb h0 (fun t => hx t.1))
  have H0 := Lib.hid h0
  clear h0
  have HX := Lib.hid hx
  clear hx
  have HY := Lib.hid hy
  clear hy
  have HA := Lib.hid ha
  have HB := Lib.hid hb
  clear ha hb
  have HC := Lib.hid hc
  have HD := Lib.hid hd
  clear hc hd
  go_enter Tryd.func17, Tryd.ntmps17
  go_wp2_with fail
  refine (rcut_32 a c _ HC.out).mono ?_
  rintro e w' ⟨rfl, rfl⟩
  go_wp2_with fail
  refine (rcut_32 b d _ HD.out).mono ?_
  rintro e w' ⟨rfl, rfl⟩
  go_wp2_with fail
  refine (rdiv32_qm c d _ _ _ HA.out HB.out rfl rfl H0.out HX.out HY.out).mono ?_
  rintro e w' ⟨rfl, rfl⟩
  obtain ⟨z, hz⟩ : ∃ z : Nat, IntKind.u64.wrap ((wrap32 (c : Int)).tdiv (wrap32 (d : Int))) = (z : Int) := Int.eq_ofNat_of_zero_le (by first | exact Int.natCast_nonneg _ | (rw [IntKind.wrap_u64]; exact Int.emod_nonneg _ (by decide)))
  rw [hz]
  have HZ := Lib.hid hz
  clear hz
  go_wp2_with fail
  refine (rcut_32 z (z % 4294967296) _ rfl).mono ?_
  rintro e w' ⟨rfl, rfl⟩
  obtain ⟨y, hy9⟩ : ∃ y : Nat, z % 4294967296 = y := ⟨_, rfl⟩
  rw [hy9]
  have HY9 := Lib.hid hy9
  clear hy9
  go_wp2_with fail
  go_ret2
  rw [HE.out]
  refine ⟨retE (?_ : (y : Int) = (wrap32 (c : Int)).tdiv (wrap32 (d : Int)) % 4294967296) rfl, rfl⟩
  have h1 := HZ.out
  have h2 := HY9.out
  rw [IntKind.wrap_u64] at h1
  generalize (wrap32 (c : Int)).tdiv (wrap32 (d : Int)) = q at *
  omega

set_option maxRecDepth 100000 in
set_option maxHeartbeats 1000000 in
theorem rtwo_109n (a b c d : Nat) (w : World) (hc : a % 4294967296 = c) (hd : b % 4294967296 = d) (ha : c < 4294967296) (hb : d < 4294967296) (h0 : d ≠ 0) (hx : wrap32 (c : Int) ≠ -2147483648) (hy : wrap32 (d : Int) ≠ -1) :
    Calls Tryd.prog 17 #[.int .i64 109, .int .u64 a, .int .u64 b] w fun e w' => e = .returned (.tuple #[.int .u64 (twoA 109 a b).1, .int .i64 (twoA 109 a b).2]) ∧ w = w' := by
  have HE := Lib.hid (show twoA 109 a b = ((wrap32 (c : Int)).tdiv (wrap32 (d : Int)) % 4294967296, 0) by rw [show twoA 109 a b = twoA 109 c d by rw [twoA_r32 3 a b (by decide) 109 (by decide), twoA_r32 3 c d (by decide) 109 (by decide), hc, hd, Nat.mod_eq_of_lt ha, Nat.mod_eq_of_lt hb]]; exact sq32 c d ha hb h0 (fun t => hx t.1))
  have H0 := Lib.hid h0
  clear h0
  have HX := Lib.hid hx
  clear hx
  have HY := Lib.hid hy
  clear hy
  have HA := Lib.hid ha
  have HB := Lib.hid hb
  clear ha hb
  have HC := Lib.hid hc
  have HD := Lib.hid hd
  clear hc hd
  go_enter Tryd.func17, Tryd.ntmps17
  go_wp2_with fail
  refine (rcut_32 a c _ HC.out).mono ?_
  rintro e w' ⟨rfl, rfl⟩
  go_wp2_with fail
  refine (rcut_32 b d _ HD.out).mono ?_
  rintro e w' ⟨rfl, rfl⟩
  go_wp2_with fail
  refine (rdiv32_qn c d _ _ _ HA.out HB.out rfl rfl H0.out HX.out HY.out).mono ?_
  rintro e w' ⟨rfl, rfl⟩
  obtain ⟨z, hz⟩ : ∃ z : Nat, IntKind.u64.wrap ((wrap32 (c : Int)).tdiv (wrap32 (d : Int))) = (z : Int) := Int.eq_ofNat_of_zero_le (by first | exact Int.natCast_nonneg _ | (rw [IntKind.wrap_u64]; exact Int.emod_nonneg _ (by decide)))
  rw [hz]
  have HZ := Lib.hid hz
  clear hz
  go_wp2_with fail
  refine (rcut_32 z (z % 4294967296) _ rfl).mono ?_
  rintro e w' ⟨rfl, rfl⟩
  obtain ⟨y, hy9⟩ : ∃ y : Nat, z % 4294967296 = y := ⟨_, rfl⟩
  rw [hy9]
  have HY9 := Lib.hid hy9
  clear hy9
  go_wp2_with fail
  go_ret2
  rw [HE.out]
  refine ⟨retE (?_ : (y : Int) = (wrap32 (c : Int)).tdiv (wrap32 (d : Int)) % 4294967296) rfl, rfl⟩
  have h1 := HZ.out
  have h2 := HY9.out
  rw [IntKind.wrap_u64] at h1
  generalize (wrap32 (c : Int)).tdiv (wrap32 (d : Int)) = q at *
  omega

set_option maxRecDepth 100000 in
set_option maxHeartbeats 1000000 in
theorem rtwo_109k (a b c d : Nat) (w : World) (hc : a % 4294967296 = c) (hd : b % 4294967296 = d) (ha : c < 4294967296) (hb : d < 4294967296) (h0 : d ≠ 0) (hx : wrap32 (c : Int) = -2147483648) (hy : wrap32 (d : Int) ≠ -1) :
    Calls Tryd.prog 17 #[.int .i64 109, .int .u64 a, .int .u64 b] w fun e w' => e = .returned (.tuple #[.int .u64 (twoA 109 a b).1, .int .i64 (twoA 109 a b).2]) ∧ w = w' := by
  have HE := Lib.hid (show twoA 109 a b = ((wrap32 (c : Int)).tdiv (wrap32 (d : Int)) % 4294967296, 0) by rw [show twoA 109 a b = twoA 109 c d by rw [twoA_r32 3 a b (by decide) 109 (by decide), twoA_r32 3 c d (by decide) 109 (by decide), hc, hd, Nat.mod_eq_of_lt ha, Nat.mod_eq_of_lt hb]]; exact sq32 c d ha hb h0 (fun t => hy t.2))
  have H0 := Lib.hid h0
  clear h0
  have HX := Lib.hid hx
  clear hx
  have HY := Lib.hid hy
  clear hy
  have HA := Lib.hid ha
  have HB := Lib.hid hb
  clear ha hb
  have HC := Lib.hid hc
  have HD := Lib.hid hd
  clear hc hd
  go_enter Tryd.func17, Tryd.ntmps17
  go_wp2_with fail
  refine (rcut_32 a c _ HC.out).mono ?_
  rintro e w' ⟨rfl, rfl⟩
  go_wp2_with fail
  refine (rcut_32 b d _ HD.out).mono ?_
  rintro e w' ⟨rfl, rfl⟩
  go_wp2_with fail
  refine (rdiv32_qk c d _ _ _ HA.out HB.out rfl rfl H0.out HX.out HY.out).mono ?_
  rintro e w' ⟨rfl, rfl⟩
  obtain ⟨z, hz⟩ : ∃ z : Nat, IntKind.u64.wrap ((wrap32 (c : Int)).tdiv (wrap32 (d : Int))) = (z : Int) := Int.eq_ofNat_of_zero_le (by first | exact Int.natCast_nonneg _ | (rw [IntKind.wrap_u64]; exact Int.emod_nonneg _ (by decide)))
  rw [hz]
  have HZ := Lib.hid hz
  clear hz
  go_wp2_with fail
  refine (rcut_32 z (z % 4294967296) _ rfl).mono ?_
  rintro e w' ⟨rfl, rfl⟩
  obtain ⟨y, hy9⟩ : ∃ y : Nat, z % 4294967296 = y := ⟨_, rfl⟩
  rw [hy9]
  have HY9 := Lib.hid hy9
  clear hy9
  go_wp2_with fail
  go_ret2
  rw [HE.out]
  refine ⟨retE (?_ : (y : Int) = (wrap32 (c : Int)).tdiv (wrap32 (d : Int)) % 4294967296) rfl, rfl⟩
  have h1 := HZ.out
  have h2 := HY9.out
  rw [IntKind.wrap_u64] at h1
  generalize (wrap32 (c : Int)).tdiv (wrap32 (d : Int)) = q at *
  omega

set_option maxRecDepth 100000 in
set_option maxHeartbeats 1000000 in
theorem rtwo_110u (a b c d : Nat) (w : World) (hc : a % 4294967296 = c) (hd : b % 4294967296 = d) (ha : c < 4294967296) (hb : d < 4294967296) (h0 : d ≠ 0) :
    Calls Tryd.prog 17 #[.int .i64 110, .int .u64 a, .int .u64 b] w fun e w' => e = .returned (.tuple #[.int .u64 (twoA 110 a b).1, .int .i64 (twoA 110 a b).2]) ∧ w = w' := by
  have HE := Lib.hid (show twoA 110 a b = (((c / d : Nat) : Int), 0) by rw [show twoA 110 a b = twoA 110 c d by rw [twoA_r32 4 a b (by decide) 110 (by decide), twoA_r32 4 c d (by decide) 110 (by decide), hc, hd, Nat.mod_eq_of_lt ha, Nat.mod_eq_of_lt hb]]; exact uq32 c d ha hb h0)
  have H0 := Lib.hid h0
  clear h0
  have HA := Lib.hid ha
  have HB := Lib.hid hb
  clear ha hb
  have HC := Lib.hid hc
  have HD := Lib.hid hd
  clear hc hd
  go_enter Tryd.func17, Tryd.ntmps17
  go_wp2_with fail
  refine (rcut_32 a c _ HC.out).mono ?_
  rintro e w' ⟨rfl, rfl⟩
  go_wp2_with fail
  refine (rcut_32 b d _ HD.out).mono ?_
  rintro e w' ⟨rfl, rfl⟩
  go_wp2_with fail
  refine (rdiv32_u c d _ _ _ HA.out HB.out rfl rfl H0.out).mono ?_
  rintro e w' ⟨rfl, rfl⟩
  obtain ⟨z, hz⟩ : ∃ z : Nat, ((c / d : Nat) : Int) = (z : Int) := Int.eq_ofNat_of_zero_le (by first | exact Int.natCast_nonneg _ | (rw [IntKind.wrap_u64]; exact Int.emod_nonneg _ (by decide)))
  rw [hz]
  have HZ := Lib.hid hz
  clear hz
  go_wp2_with fail
  refine (rcut_32 z (z % 4294967296) _ rfl).mono ?_
  rintro e w' ⟨rfl, rfl⟩
  obtain ⟨y, hy9⟩ : ∃ y : Nat, z % 4294967296 = y := ⟨_, rfl⟩
  rw [hy9]
  have HY9 := Lib.hid hy9
  clear hy9
  go_wp2_with fail
  go_ret2
  rw [HE.out]
  refine ⟨retE (?_ : (y : Int) = ((c / d : Nat) : Int)) rfl, rfl⟩
  have h1 := HZ.out
  have h2 := HY9.out
  have h3 := HA.out
  have h4 := Nat.div_le_self c d
  generalize c / d = q at *
  omega

set_option maxRecDepth 100000 in
set_option maxHeartbeats 1000000 in
theorem rtwo_111r1 (a b c d : Nat) (w : World) (hc : a % 4294967296 = c) (hd : b % 4294967296 = d) (ha : c < 4294967296) (hb : d < 4294967296) (h0 : d ≠ 0) (hy : wrap32 (d : Int) = -1) :
    Calls Tryd.prog 17 #[.int .i64 111, .int .u64 a, .int .u64 b] w fun e w' => e = .returned (.tuple #[.int .u64 (twoA 111 a b).1, .int .i64 (twoA 111 a b).2]) ∧ w = w' := by
  have HE := Lib.hid (show twoA 111 a b = (0, 0) by rw [show twoA 111 a b = twoA 111 c d by rw [twoA_r32 5 a b (by decide) 111 (by decide), twoA_r32 5 c d (by decide) 111 (by decide), hc, hd, Nat.mod_eq_of_lt ha, Nat.mod_eq_of_lt hb]]; exact sr132 c d ha hb hy)
  have H0 := Lib.hid h0
  clear h0
  have HY := Lib.hid hy
  clear hy
  have HA := Lib.hid ha
  have HB := Lib.hid hb
  clear ha hb
  have HC := Lib.hid hc
  have HD := Lib.hid hd
  clear hc hd
  go_enter Tryd.func17, Tryd.ntmps17
  go_wp2_with fail
  refine (rcut_32 a c _ HC.out).mono ?_
  rintro e w' ⟨rfl, rfl⟩
  go_wp2_with fail
  refine (rcut_32 b d _ HD.out).mono ?_
  rintro e w' ⟨rfl, rfl⟩
  go_wp2_with fail
  refine (rdiv32_r1 c d _ _ _ HA.out HB.out rfl rfl H0.out HY.out).mono ?_
  rintro e w' ⟨rfl, rfl⟩
  go_wp2_with fail
  refine (rcut_32 0 (0 % 4294967296) _ rfl).mono ?_
  rintro e w' ⟨rfl, rfl⟩
  go_wp2_with fail
  go_ret2
  rw [HE.out]
  exact ⟨rfl, rfl⟩

set_option maxRecDepth 100000 in
set_option maxHeartbeats 1000000 in
theorem rtwo_111r (a b c d : Nat) (w : World) (hc : a % 4294967296 = c) (hd : b % 4294967296 = d) (ha : c < 4294967296) (hb : d < 4294967296) (h0 : d ≠ 0) (hy : wrap32 (d : Int) ≠ -1) :
    Calls Tryd.prog 17 #[.int .i64 111, .int .u64 a, .int .u64 b] w fun e w' => e = .returned (.tuple #[.int .u64 (twoA 111 a b).1, .int .i64 (twoA 111 a b).2]) ∧ w = w' := by
  have HE := Lib.hid (show twoA 111 a b = ((wrap32 (c : Int)).tmod (wrap32 (d : Int)) % 4294967296, 0) by rw [show twoA 111 a b = twoA 111 c d by rw [twoA_r32 5 a b (by decide) 111 (by decide), twoA_r32 5 c d (by decide) 111 (by decide), hc, hd, Nat.mod_eq_of_lt ha, Nat.mod_eq_of_lt hb]]; exact sr32 c d ha hb h0 hy)
  have H0 := Lib.hid h0
  clear h0
  have HY := Lib.hid hy
  clear hy
  have HA := Lib.hid ha
  have HB := Lib.hid hb
  clear ha hb
  have HC := Lib.hid hc
  have HD := Lib.hid hd
  clear hc hd
  go_enter Tryd.func17, Tryd.ntmps17
  go_wp2_with fail
  refine (rcut_32 a c _ HC.out).mono ?_
  rintro e w' ⟨rfl, rfl⟩
  go_wp2_with fail
  refine (rcut_32 b d _ HD.out).mono ?_
  rintro e w' ⟨rfl, rfl⟩
  go_wp2_with fail
  refine (rdiv32_r c d _ _ _ HA.out HB.out rfl rfl H0.out HY.out).mono ?_
  rintro e w' ⟨rfl, rfl⟩
  obtain ⟨z, hz⟩ : ∃ z : Nat, IntKind.u64.wrap ((wrap32 (c : Int)).tmod (wrap32 (d : Int))) = (z : Int) := Int.eq_ofNat_of_zero_le (by first | exact Int.natCast_nonneg _ | (rw [IntKind.wrap_u64]; exact Int.emod_nonneg _ (by decide)))
  rw [hz]
  have HZ := Lib.hid hz
  clear hz
  go_wp2_with fail
  refine (rcut_32 z (z % 4294967296) _ rfl).mono ?_
  rintro e w' ⟨rfl, rfl⟩
  obtain ⟨y, hy9⟩ : ∃ y : Nat, z % 4294967296 = y := ⟨_, rfl⟩
  rw [hy9]
  have HY9 := Lib.hid hy9
  clear hy9
  go_wp2_with fail
  go_ret2
  rw [HE.out]
  refine ⟨retE (?_ : (y : Int) = (wrap32 (c : Int)).tmod (wrap32 (d : Int)) % 4294967296) rfl, rfl⟩
  have h1 := HZ.out
  have h2 := HY9.out
  rw [IntKind.wrap_u64] at h1
  generalize (wrap32 (c : Int)).tmod (wrap32 (d : Int)) = q at *
  omega

set_option maxRecDepth 100000 in
set_option maxHeartbeats 1000000 in
theorem rtwo_112ru (a b c d : Nat) (w : World) (hc : a % 4294967296 = c) (hd : b % 4294967296 = d) (ha : c < 4294967296) (hb : d < 4294967296) (h0 : d ≠ 0) :
    Calls Tryd.prog 17 #[.int .i64 112, .int .u64 a, .int .u64 b] w fun e w' => e = .returned (.tuple #[.int .u64 (twoA 112 a b).1, .int .i64 (twoA 112 a b).2]) ∧ w = w' := by
  have HE := Lib.hid (show twoA 112 a b = (((c % d : Nat) : Int), 0) by rw [show twoA 112 a b = twoA 112 c d by rw [twoA_r32 6 a b (by decide) 112 (by decide), twoA_r32 6 c d (by decide) 112 (by decide), hc, hd, Nat.mod_eq_of_lt ha, Nat.mod_eq_of_lt hb]]; exact ur32 c d ha hb h0)
  have H0 := Lib.hid h0
  clear h0
  have HA := Lib.hid ha
  have HB := Lib.hid hb
  clear ha hb
  have HC := Lib.hid hc
  have HD := Lib.hid hd
  clear hc hd
  go_enter Tryd.func17, Tryd.ntmps17
  go_wp2_with fail
  refine (rcut_32 a c _ HC.out).mono ?_
  rintro e w' ⟨rfl, rfl⟩
  go_wp2_with fail
  refine (rcut_32 b d _ HD.out).mono ?_
  rintro e w' ⟨rfl, rfl⟩
  go_wp2_with fail
  refine (rdiv32_ru c d _ _ _ HA.out HB.out rfl rfl H0.out).mono ?_
  rintro e w' ⟨rfl, rfl⟩
  obtain ⟨z, hz⟩ : ∃ z : Nat, ((c % d : Nat) : Int) = (z : Int) := Int.eq_ofNat_of_zero_le (by first | exact Int.natCast_nonneg _ | (rw [IntKind.wrap_u64]; exact Int.emod_nonneg _ (by decide)))
  rw [hz]
  have HZ := Lib.hid hz
  clear hz
  go_wp2_with fail
  refine (rcut_32 z (z % 4294967296) _ rfl).mono ?_
  rintro e w' ⟨rfl, rfl⟩
  obtain ⟨y, hy9⟩ : ∃ y : Nat, z % 4294967296 = y := ⟨_, rfl⟩
  rw [hy9]
  have HY9 := Lib.hid hy9
  clear hy9
  go_wp2_with fail
  go_ret2
  rw [HE.out]
  refine ⟨retE (?_ : (y : Int) = ((c % d : Nat) : Int)) rfl, rfl⟩
  have h1 := HZ.out
  have h2 := HY9.out
  have h3 := HA.out
  have h4 := Nat.mod_le c d
  generalize c % d = q at *
  omega

set_option maxRecDepth 100000 in
set_option maxHeartbeats 1000000 in
theorem rtwo_124 (a b c d : Nat) (w : World) (hc : a = c) (hd : b = d) (ha : c < 18446744073709551616) (hb : d < 18446744073709551616) :
    Calls Tryd.prog 17 #[.int .i64 124, .int .u64 a, .int .u64 b] w fun e w' => e = .returned (.tuple #[.int .u64 (twoA 124 a b).1, .int .i64 (twoA 124 a b).2]) ∧ w = w' := by
  subst hc
  subst hd
  have HE := Lib.hid (show twoA 124 a b = (IntKind.u64.wrap ((a : Int) + b), 0) by rw [twoA_r64 0 a b (by decide) 124 (by decide), r64_p 0 _ _ (by decide) (by decide) (by decide) (by decide)]; rfl)
  obtain ⟨s, hs⟩ : ∃ s : Nat, (a + b) % 18446744073709551616 = s := ⟨_, rfl⟩
  have hs2 : IntKind.u64.wrap ((a : Int) + b) = (s : Int) := by rw [IntKind.wrap_u64]; omega
  obtain ⟨r, hr⟩ : ∃ r : Nat, s % 4294967296 = r := ⟨_, rfl⟩
  have HR := Lib.hid hr
  have HF := Lib.hid (show (s : Int) = IntKind.u64.wrap ((a : Int) + b) by exact hs2.symm)
  clear hs hr
  have HA := Lib.hid ha
  have HB := Lib.hid hb
  clear ha hb
  go_enter Tryd.func17, Tryd.ntmps17
  go_wp2_with fail
  refine (rcut_64 _ _).mono ?_
  rintro e w' ⟨rfl, rfl⟩
  go_wp2_with fail
  refine (rcut_64 _ _).mono ?_
  rintro e w' ⟨rfl, rfl⟩
  go_wp2_with fail
  refine (rcut_64 _ _).mono ?_
  rintro e w' ⟨rfl, rfl⟩
  go_wp2_with fail
  go_ret2
  rw [HE.out]
  exact ⟨retE HF.out rfl, rfl⟩

set_option maxRecDepth 100000 in
set_option maxHeartbeats 1000000 in
theorem rtwo_125 (a b c d : Nat) (w : World) (hc : a = c) (hd : b = d) (ha : c < 18446744073709551616) (hb : d < 18446744073709551616) :
    Calls Tryd.prog 17 #[.int .i64 125, .int .u64 a, .int .u64 b] w fun e w' => e = .returned (.tuple #[.int .u64 (twoA 125 a b).1, .int .i64 (twoA 125 a b).2]) ∧ w = w' := by
  subst hc
  subst hd
  have HE := Lib.hid (show twoA 125 a b = (IntKind.u64.wrap ((a : Int) - b), 0) by rw [twoA_r64 1 a b (by decide) 125 (by decide), r64_p 1 _ _ (by decide) (by decide) (by decide) (by decide)]; rfl)
  obtain ⟨s, hs⟩ : ∃ s : Nat, (a + (18446744073709551616 - b)) % 18446744073709551616 = s := ⟨_, rfl⟩
  have hs2 : IntKind.u64.wrap ((a : Int) - b) = (s : Int) := by rw [IntKind.wrap_u64]; omega
  obtain ⟨r, hr⟩ : ∃ r : Nat, s % 4294967296 = r := ⟨_, rfl⟩
  have HR := Lib.hid hr
  have HF := Lib.hid (show (s : Int) = IntKind.u64.wrap ((a : Int) - b) by exact hs2.symm)
  clear hs hr
  have HA := Lib.hid ha
  have HB := Lib.hid hb
  clear ha hb
  go_enter Tryd.func17, Tryd.ntmps17
  go_wp2_with fail
  refine (rcut_64 _ _).mono ?_
  rintro e w' ⟨rfl, rfl⟩
  go_wp2_with fail
  refine (rcut_64 _ _).mono ?_
  rintro e w' ⟨rfl, rfl⟩
  go_wp2_with fail
  refine (rcut_64 _ _).mono ?_
  rintro e w' ⟨rfl, rfl⟩
  go_wp2_with fail
  go_ret2
  rw [HE.out]
  exact ⟨retE HF.out rfl, rfl⟩

set_option maxRecDepth 100000 in
set_option maxHeartbeats 1000000 in
theorem rtwo_126 (a b c d : Nat) (w : World) (hc : a = c) (hd : b = d) (ha : c < 18446744073709551616) (hb : d < 18446744073709551616) :
    Calls Tryd.prog 17 #[.int .i64 126, .int .u64 a, .int .u64 b] w fun e w' => e = .returned (.tuple #[.int .u64 (twoA 126 a b).1, .int .i64 (twoA 126 a b).2]) ∧ w = w' := by
  subst hc
  subst hd
  have HE := Lib.hid (show twoA 126 a b = (IntKind.u64.wrap ((a : Int) * b), 0) by rw [twoA_r64 2 a b (by decide) 126 (by decide), r64_p 2 _ _ (by decide) (by decide) (by decide) (by decide)]; rfl)
  obtain ⟨s, hs⟩ : ∃ s : Nat, a * b % 18446744073709551616 = s := ⟨_, rfl⟩
  have hs2 : IntKind.u64.wrap ((a : Int) * b) = (s : Int) := by rw [IntKind.wrap_u64, ← Int.natCast_mul]; omega
  obtain ⟨r, hr⟩ : ∃ r : Nat, s % 4294967296 = r := ⟨_, rfl⟩
  have HR := Lib.hid hr
  have HF := Lib.hid (show (s : Int) = IntKind.u64.wrap ((a : Int) * b) by exact hs2.symm)
  clear hs hr
  have HA := Lib.hid ha
  have HB := Lib.hid hb
  clear ha hb
  go_enter Tryd.func17, Tryd.ntmps17
  go_wp2_with fail
  refine (rcut_64 _ _).mono ?_
  rintro e w' ⟨rfl, rfl⟩
  go_wp2_with fail
  refine (rcut_64 _ _).mono ?_
  rintro e w' ⟨rfl, rfl⟩
  go_wp2_with fail
  refine (rcut_64 _ _).mono ?_
  rintro e w' ⟨rfl, rfl⟩
  go_wp2_with fail
  go_ret2
  rw [HE.out]
  exact ⟨retE HF.out rfl, rfl⟩

set_option maxRecDepth 100000 in
set_option maxHeartbeats 1000000 in
theorem rtwo_131 (a b c d : Nat) (w : World) (hc : a = c) (hd : b = d) (ha : c < 18446744073709551616) (hb : d < 18446744073709551616) :
    Calls Tryd.prog 17 #[.int .i64 131, .int .u64 a, .int .u64 b] w fun e w' => e = .returned (.tuple #[.int .u64 (twoA 131 a b).1, .int .i64 (twoA 131 a b).2]) ∧ w = w' := by
  subst hc
  subst hd
  have HE := Lib.hid (show twoA 131 a b = (((a &&& b : Nat) : Int), 0) by exact Prod.ext (v64_and a b ha hb) (by rw [twoA_r64 7 a b (by decide) 131 (by decide), r64_p 7 _ _ (by decide) (by decide) (by decide) (by decide)]; rfl))
  have hs2 : bits .and .u64 (a : Int) (b : Int) = ((a &&& b : Nat) : Int) := bits_and_u64_nat a b (by omega) (by omega)
  obtain ⟨s, hs⟩ : ∃ s : Nat, a &&& b = s := ⟨_, rfl⟩
  rw [hs] at HE hs2
  clear hs
  have HA := Lib.hid ha
  have HB := Lib.hid hb
  clear ha hb
  go_enter Tryd.func17, Tryd.ntmps17
  go_wp2_with fail
  refine (rcut_64 _ _).mono ?_
  rintro e w' ⟨rfl, rfl⟩
  go_wp2_with fail
  refine (rcut_64 _ _).mono ?_
  rintro e w' ⟨rfl, rfl⟩
  go_wp2_with fail
  go_ret2
  rw [HE.out]
  exact ⟨rfl, rfl⟩

set_option maxRecDepth 100000 in
set_option maxHeartbeats 1000000 in
theorem rtwo_132 (a b c d : Nat) (w : World) (hc : a = c) (hd : b = d) (ha : c < 18446744073709551616) (hb : d < 18446744073709551616) :
    Calls Tryd.prog 17 #[.int .i64 132, .int .u64 a, .int .u64 b] w fun e w' => e = .returned (.tuple #[.int .u64 (twoA 132 a b).1, .int .i64 (twoA 132 a b).2]) ∧ w = w' := by
  subst hc
  subst hd
  have HE := Lib.hid (show twoA 132 a b = (((a ||| b : Nat) : Int), 0) by exact Prod.ext (v64_or a b ha hb) (by rw [twoA_r64 8 a b (by decide) 132 (by decide), r64_p 8 _ _ (by decide) (by decide) (by decide) (by decide)]; rfl))
  have hs2 : bits .or .u64 (a : Int) (b : Int) = ((a ||| b : Nat) : Int) := bits_or_u64_nat a b (by omega) (by omega)
  obtain ⟨s, hs⟩ : ∃ s : Nat, a ||| b = s := ⟨_, rfl⟩
  rw [hs] at HE hs2
  clear hs
  have HA := Lib.hid ha
  have HB := Lib.hid hb
  clear ha hb
  go_enter Tryd.func17, Tryd.ntmps17
  go_wp2_with fail
  refine (rcut_64 _ _).mono ?_
  rintro e w' ⟨rfl, rfl⟩
  go_wp2_with fail
  refine (rcut_64 _ _).mono ?_
  rintro e w' ⟨rfl, rfl⟩
  go_wp2_with fail
  go_ret2
  rw [HE.out]
  exact ⟨rfl, rfl⟩

set_option maxRecDepth 100000 in
set_option maxHeartbeats 1000000 in
theorem rtwo_133 (a b c d : Nat) (w : World) (hc : a = c) (hd : b = d) (ha : c < 18446744073709551616) (hb : d < 18446744073709551616) :
    Calls Tryd.prog 17 #[.int .i64 133, .int .u64 a, .int .u64 b] w fun e w' => e = .returned (.tuple #[.int .u64 (twoA 133 a b).1, .int .i64 (twoA 133 a b).2]) ∧ w = w' := by
  subst hc
  subst hd
  have HE := Lib.hid (show twoA 133 a b = (((a ^^^ b : Nat) : Int), 0) by exact Prod.ext (v64_xor a b ha hb) (by rw [twoA_r64 9 a b (by decide) 133 (by decide), r64_p 9 _ _ (by decide) (by decide) (by decide) (by decide)]; rfl))
  have hs2 : bits .xor .u64 (a : Int) (b : Int) = ((a ^^^ b : Nat) : Int) := bits_xor_u64_nat a b (by omega) (by omega)
  obtain ⟨s, hs⟩ : ∃ s : Nat, a ^^^ b = s := ⟨_, rfl⟩
  rw [hs] at HE hs2
  clear hs
  have HA := Lib.hid ha
  have HB := Lib.hid hb
  clear ha hb
  go_enter Tryd.func17, Tryd.ntmps17
  go_wp2_with fail
  refine (rcut_64 _ _).mono ?_
  rintro e w' ⟨rfl, rfl⟩
  go_wp2_with fail
  refine (rcut_64 _ _).mono ?_
  rintro e w' ⟨rfl, rfl⟩
  go_wp2_with fail
  go_ret2
  rw [HE.out]
  exact ⟨rfl, rfl⟩

set_option maxRecDepth 100000 in
set_option maxHeartbeats 1000000 in
theorem rtwo_134 (a b c d : Nat) (w : World) (hc : a = c) (hd : b = d) (ha : c < 18446744073709551616) (hb : d < 18446744073709551616) :
    Calls Tryd.prog 17 #[.int .i64 134, .int .u64 a, .int .u64 b] w fun e w' => e = .returned (.tuple #[.int .u64 (twoA 134 a b).1, .int .i64 (twoA 134 a b).2]) ∧ w = w' := by
  subst hc
  subst hd
  obtain ⟨n, hn⟩ : ∃ n : Nat, b % 64 = n := ⟨_, rfl⟩
  have HN := Lib.hid hn
  have HN2 := Lib.hid (show (b : Int) % ((64 : Nat) : Int) = (n : Int) by omega)
  have HE := Lib.hid (show twoA 134 a b = r64p 10 a b by rw [twoA_r64 10 a b (by decide) 134 (by decide), r64_p 10 _ _ (by decide) (by decide) (by decide) (by decide)])
  clear hn
  have HA := Lib.hid ha
  have HB := Lib.hid hb
  clear ha hb
  go_enter Tryd.func17, Tryd.ntmps17
  go_wp2_with fail
  refine (rcut_64 _ _).mono ?_
  rintro e w' ⟨rfl, rfl⟩
  go_wp2_with fail
  refine (rcut_64 _ _).mono ?_
  rintro e w' ⟨rfl, rfl⟩
  go_wp2_with fail
  refine (moved_0 a b n 64 _ (by decide) (by decide) HN2.out (by have := HN.out; omega)).mono ?_
  rintro e w' ⟨⟨out, hacc, rfl⟩, rfl⟩
  have HAC := Lib.hid hacc
  clear hacc
  go_wp2_with fail
  go_ret2
  have hv := mv_0 (show a < 2 ^ 64 by have := HA.out; omega) (show n < 64 by have := HN.out; omega) HAC.out
  rw [HE.out]
  refine ⟨retE (?_ : (out : Int) = IntKind.u64.wrap ((a : Int) * 2 ^ (b % 64))) rfl, rfl⟩
  rw [HN.out, hv, pow2c, ← Int.natCast_mul, IntKind.wrap_u64]
  rfl

set_option maxRecDepth 100000 in
set_option maxHeartbeats 1000000 in
theorem rtwo_135 (a b c d : Nat) (w : World) (hc : a = c) (hd : b = d) (ha : c < 18446744073709551616) (hb : d < 18446744073709551616) :
    Calls Tryd.prog 17 #[.int .i64 135, .int .u64 a, .int .u64 b] w fun e w' => e = .returned (.tuple #[.int .u64 (twoA 135 a b).1, .int .i64 (twoA 135 a b).2]) ∧ w = w' := by
  subst hc
  subst hd
  obtain ⟨n, hn⟩ : ∃ n : Nat, b % 64 = n := ⟨_, rfl⟩
  have HN := Lib.hid hn
  have HN2 := Lib.hid (show (b : Int) % ((64 : Nat) : Int) = (n : Int) by omega)
  have HE := Lib.hid (show twoA 135 a b = r64p 11 a b by rw [twoA_r64 11 a b (by decide) 135 (by decide), r64_p 11 _ _ (by decide) (by decide) (by decide) (by decide)])
  clear hn
  have HA := Lib.hid ha
  have HB := Lib.hid hb
  clear ha hb
  go_enter Tryd.func17, Tryd.ntmps17
  go_wp2_with fail
  refine (rcut_64 _ _).mono ?_
  rintro e w' ⟨rfl, rfl⟩
  go_wp2_with fail
  refine (rcut_64 _ _).mono ?_
  rintro e w' ⟨rfl, rfl⟩
  go_wp2_with fail
  refine (moved_1 a b n 64 _ (by decide) (by decide) HN2.out (by have := HN.out; omega)).mono ?_
  rintro e w' ⟨⟨out, hacc, rfl⟩, rfl⟩
  have HAC := Lib.hid hacc
  clear hacc
  go_wp2_with fail
  go_ret2
  have hv := mv_1_64 HA.out (show n < 64 by have := HN.out; omega) HAC.out
  rw [HE.out]
  refine ⟨retE (?_ : (out : Int) = IntKind.u64.wrap (wrap64 (a : Int) / 2 ^ (b % 64))) rfl, rfl⟩
  rw [HN.out, hv, IntKind.wrap_u64]

set_option maxRecDepth 100000 in
set_option maxHeartbeats 1000000 in
theorem rtwo_136 (a b c d : Nat) (w : World) (hc : a = c) (hd : b = d) (ha : c < 18446744073709551616) (hb : d < 18446744073709551616) :
    Calls Tryd.prog 17 #[.int .i64 136, .int .u64 a, .int .u64 b] w fun e w' => e = .returned (.tuple #[.int .u64 (twoA 136 a b).1, .int .i64 (twoA 136 a b).2]) ∧ w = w' := by
  subst hc
  subst hd
  obtain ⟨n, hn⟩ : ∃ n : Nat, b % 64 = n := ⟨_, rfl⟩
  have HN := Lib.hid hn
  have HN2 := Lib.hid (show (b : Int) % ((64 : Nat) : Int) = (n : Int) by omega)
  have HE := Lib.hid (show twoA 136 a b = r64p 12 a b by rw [twoA_r64 12 a b (by decide) 136 (by decide), r64_p 12 _ _ (by decide) (by decide) (by decide) (by decide)])
  clear hn
  have HA := Lib.hid ha
  have HB := Lib.hid hb
  clear ha hb
  go_enter Tryd.func17, Tryd.ntmps17
  go_wp2_with fail
  refine (rcut_64 _ _).mono ?_
  rintro e w' ⟨rfl, rfl⟩
  go_wp2_with fail
  refine (rcut_64 _ _).mono ?_
  rintro e w' ⟨rfl, rfl⟩
  go_wp2_with fail
  refine (moved_2 a b n 64 _ (by decide) (by decide) HN2.out (by have := HN.out; omega)).mono ?_
  rintro e w' ⟨⟨out, hacc, rfl⟩, rfl⟩
  have HAC := Lib.hid hacc
  clear hacc
  go_wp2_with fail
  go_ret2
  have hv := mv_2 (show a < 2 ^ 64 by have := HA.out; omega) (show n < 64 by have := HN.out; omega) HAC.out
  rw [HE.out]
  refine ⟨retE (?_ : (out : Int) = (a : Int) / 2 ^ (b % 64)) rfl, rfl⟩
  have h9 := Nat.div_le_self a (2 ^ n)
  have h8 := HA.out
  rw [HN.out, hv, pow2c, ← Int.natCast_ediv]

set_option maxRecDepth 100000 in
set_option maxHeartbeats 1000000 in
theorem rtwo_137 (a b c d : Nat) (w : World) (hc : a = c) (hd : b = d) (ha : c < 18446744073709551616) (hb : d < 18446744073709551616) :
    Calls Tryd.prog 17 #[.int .i64 137, .int .u64 a, .int .u64 b] w fun e w' => e = .returned (.tuple #[.int .u64 (twoA 137 a b).1, .int .i64 (twoA 137 a b).2]) ∧ w = w' := by
  subst hc
  subst hd
  obtain ⟨n, hn⟩ : ∃ n : Nat, b % 64 = n := ⟨_, rfl⟩
  have HN := Lib.hid hn
  have HN2 := Lib.hid (show (b : Int) % ((64 : Nat) : Int) = (n : Int) by omega)
  have HE := Lib.hid (show twoA 137 a b = r64p 13 a b by rw [twoA_r64 13 a b (by decide) 137 (by decide), r64_p 13 _ _ (by decide) (by decide) (by decide) (by decide)])
  clear hn
  have HA := Lib.hid ha
  have HB := Lib.hid hb
  clear ha hb
  go_enter Tryd.func17, Tryd.ntmps17
  go_wp2_with fail
  refine (rcut_64 _ _).mono ?_
  rintro e w' ⟨rfl, rfl⟩
  go_wp2_with fail
  refine (rcut_64 _ _).mono ?_
  rintro e w' ⟨rfl, rfl⟩
  go_wp2_with fail
  refine (moved_3 a b n 64 _ (by decide) (by decide) HN2.out (by have := HN.out; omega)).mono ?_
  rintro e w' ⟨⟨out, hacc, rfl⟩, rfl⟩
  have HAC := Lib.hid hacc
  clear hacc
  go_wp2_with fail
  go_ret2
  have hv := mv_3 (show a < 2 ^ 64 by have := HA.out; omega) (show n < 64 by have := HN.out; omega) HAC.out
  rw [HE.out]
  refine ⟨retE (?_ : (out : Int) = ((rotl 64 a (b % 64) : Nat) : Int)) rfl, rfl⟩
  rw [HN.out, hv]

set_option maxRecDepth 100000 in
set_option maxHeartbeats 1000000 in
theorem rtwo_138 (a b c d : Nat) (w : World) (hc : a = c) (hd : b = d) (ha : c < 18446744073709551616) (hb : d < 18446744073709551616) :
    Calls Tryd.prog 17 #[.int .i64 138, .int .u64 a, .int .u64 b] w fun e w' => e = .returned (.tuple #[.int .u64 (twoA 138 a b).1, .int .i64 (twoA 138 a b).2]) ∧ w = w' := by
  subst hc
  subst hd
  obtain ⟨n, hn⟩ : ∃ n : Nat, b % 64 = n := ⟨_, rfl⟩
  have HN := Lib.hid hn
  have HN2 := Lib.hid (show (b : Int) % ((64 : Nat) : Int) = (n : Int) by omega)
  have HE := Lib.hid (show twoA 138 a b = r64p 14 a b by rw [twoA_r64 14 a b (by decide) 138 (by decide), r64_p 14 _ _ (by decide) (by decide) (by decide) (by decide)])
  clear hn
  have HA := Lib.hid ha
  have HB := Lib.hid hb
  clear ha hb
  go_enter Tryd.func17, Tryd.ntmps17
  go_wp2_with fail
  refine (rcut_64 _ _).mono ?_
  rintro e w' ⟨rfl, rfl⟩
  go_wp2_with fail
  refine (rcut_64 _ _).mono ?_
  rintro e w' ⟨rfl, rfl⟩
  go_wp2_with fail
  refine (moved_4 a b n 64 _ (by decide) (by decide) HN2.out (by have := HN.out; omega)).mono ?_
  rintro e w' ⟨⟨out, hacc, rfl⟩, rfl⟩
  have HAC := Lib.hid hacc
  clear hacc
  go_wp2_with fail
  go_ret2
  have hv := mv_4 (show a < 2 ^ 64 by have := HA.out; omega) (show n < 64 by have := HN.out; omega) HAC.out
  rw [HE.out]
  refine ⟨retE (?_ : (out : Int) = ((rotl 64 a ((64 - b % 64) % 64) : Nat) : Int)) rfl, rfl⟩
  rw [HN.out, hv]

set_option maxRecDepth 100000 in
set_option maxHeartbeats 1000000 in
theorem rtwo_127z3 (a b c d : Nat) (w : World) (hc : a = c) (hd : b = d) (ha : c < 18446744073709551616) (hb : d < 18446744073709551616) (h0 : d = 0) :
    Calls Tryd.prog 17 #[.int .i64 127, .int .u64 a, .int .u64 b] w fun e w' => e = .returned (.tuple #[.int .u64 (twoA 127 a b).1, .int .i64 (twoA 127 a b).2]) ∧ w = w' := by
  subst hc
  subst hd
  have HE := Lib.hid (show twoA 127 a b = (0, 6) by rw [h0]; exact (sz64 a ha).1)
  have H0 := Lib.hid h0
  clear h0
  have HA := Lib.hid ha
  have HB := Lib.hid hb
  clear ha hb
  go_enter Tryd.func17, Tryd.ntmps17
  go_wp2_with fail
  refine (rcut_64 _ _).mono ?_
  rintro e w' ⟨rfl, rfl⟩
  go_wp2_with fail
  refine (rcut_64 _ _).mono ?_
  rintro e w' ⟨rfl, rfl⟩
  go_wp2_with fail
  refine (rdiv64_z0 a b _ _ _ HA.out HB.out rfl rfl H0.out).mono ?_
  rintro e w' ⟨rfl, rfl⟩
  go_wp2_with fail
  go_ret2
  rw [HE.out]
  exact ⟨rfl, rfl⟩

set_option maxRecDepth 100000 in
set_option maxHeartbeats 1000000 in
theorem rtwo_128z4 (a b c d : Nat) (w : World) (hc : a = c) (hd : b = d) (ha : c < 18446744073709551616) (hb : d < 18446744073709551616) (h0 : d = 0) :
    Calls Tryd.prog 17 #[.int .i64 128, .int .u64 a, .int .u64 b] w fun e w' => e = .returned (.tuple #[.int .u64 (twoA 128 a b).1, .int .i64 (twoA 128 a b).2]) ∧ w = w' := by
  subst hc
  subst hd
  have HE := Lib.hid (show twoA 128 a b = (0, 6) by rw [h0]; exact (uz64 a ha).1)
  have H0 := Lib.hid h0
  clear h0
  have HA := Lib.hid ha
  have HB := Lib.hid hb
  clear ha hb
  go_enter Tryd.func17, Tryd.ntmps17
  go_wp2_with fail
  refine (rcut_64 _ _).mono ?_
  rintro e w' ⟨rfl, rfl⟩
  go_wp2_with fail
  refine (rcut_64 _ _).mono ?_
  rintro e w' ⟨rfl, rfl⟩
  go_wp2_with fail
  refine (rdiv64_z1 a b _ _ _ HA.out HB.out rfl rfl H0.out).mono ?_
  rintro e w' ⟨rfl, rfl⟩
  go_wp2_with fail
  go_ret2
  rw [HE.out]
  exact ⟨rfl, rfl⟩

set_option maxRecDepth 100000 in
set_option maxHeartbeats 1000000 in
theorem rtwo_129z5 (a b c d : Nat) (w : World) (hc : a = c) (hd : b = d) (ha : c < 18446744073709551616) (hb : d < 18446744073709551616) (h0 : d = 0) :
    Calls Tryd.prog 17 #[.int .i64 129, .int .u64 a, .int .u64 b] w fun e w' => e = .returned (.tuple #[.int .u64 (twoA 129 a b).1, .int .i64 (twoA 129 a b).2]) ∧ w = w' := by
  subst hc
  subst hd
  have HE := Lib.hid (show twoA 129 a b = (0, 6) by rw [h0]; exact (sz64 a ha).2)
  have H0 := Lib.hid h0
  clear h0
  have HA := Lib.hid ha
  have HB := Lib.hid hb
  clear ha hb
  go_enter Tryd.func17, Tryd.ntmps17
  go_wp2_with fail
  refine (rcut_64 _ _).mono ?_
  rintro e w' ⟨rfl, rfl⟩
  go_wp2_with fail
  refine (rcut_64 _ _).mono ?_
  rintro e w' ⟨rfl, rfl⟩
  go_wp2_with fail
  refine (rdiv64_z2 a b _ _ _ HA.out HB.out rfl rfl H0.out).mono ?_
  rintro e w' ⟨rfl, rfl⟩
  go_wp2_with fail
  go_ret2
  rw [HE.out]
  exact ⟨rfl, rfl⟩

set_option maxRecDepth 100000 in
set_option maxHeartbeats 1000000 in
theorem rtwo_130z6 (a b c d : Nat) (w : World) (hc : a = c) (hd : b = d) (ha : c < 18446744073709551616) (hb : d < 18446744073709551616) (h0 : d = 0) :
    Calls Tryd.prog 17 #[.int .i64 130, .int .u64 a, .int .u64 b] w fun e w' => e = .returned (.tuple #[.int .u64 (twoA 130 a b).1, .int .i64 (twoA 130 a b).2]) ∧ w = w' := by
  subst hc
  subst hd
  have HE := Lib.hid (show twoA 130 a b = (0, 6) by rw [h0]; exact (uz64 a ha).2)
  have H0 := Lib.hid h0
  clear h0
  have HA := Lib.hid ha
  have HB := Lib.hid hb
  clear ha hb
  go_enter Tryd.func17, Tryd.ntmps17
  go_wp2_with fail
  refine (rcut_64 _ _).mono ?_
  rintro e w' ⟨rfl, rfl⟩
  go_wp2_with fail
  refine (rcut_64 _ _).mono ?_
  rintro e w' ⟨rfl, rfl⟩
  go_wp2_with fail
  refine (rdiv64_z3 a b _ _ _ HA.out HB.out rfl rfl H0.out).mono ?_
  rintro e w' ⟨rfl, rfl⟩
  go_wp2_with fail
  go_ret2
  rw [HE.out]
  exact ⟨rfl, rfl⟩

set_option maxRecDepth 100000 in
set_option maxHeartbeats 1000000 in
theorem rtwo_127l (a b c d : Nat) (w : World) (hc : a = c) (hd : b = d) (ha : c < 18446744073709551616) (hb : d < 18446744073709551616) (h0 : d ≠ 0) (hx : wrap64 (c : Int) = -9223372036854775808) (hy : wrap64 (d : Int) = -1) :
    Calls Tryd.prog 17 #[.int .i64 127, .int .u64 a, .int .u64 b] w fun e w' => e = .returned (.tuple #[.int .u64 (twoA 127 a b).1, .int .i64 (twoA 127 a b).2]) ∧ w = w' := by
  subst hc
  subst hd
  have HE := Lib.hid (show twoA 127 a b = (0, 6) by exact sl64 a b ha hb hx hy)
  have H0 := Lib.hid h0
  clear h0
  have HX := Lib.hid hx
  clear hx
  have HY := Lib.hid hy
  clear hy
  have HA := Lib.hid ha
  have HB := Lib.hid hb
  clear ha hb
  go_enter Tryd.func17, Tryd.ntmps17
  go_wp2_with fail
  refine (rcut_64 _ _).mono ?_
  rintro e w' ⟨rfl, rfl⟩
  go_wp2_with fail
  refine (rcut_64 _ _).mono ?_
  rintro e w' ⟨rfl, rfl⟩
  go_wp2_with fail
  refine (rdiv64_l a b _ _ _ HA.out HB.out rfl rfl H0.out HX.out HY.out).mono ?_
  rintro e w' ⟨rfl, rfl⟩
  go_wp2_with fail
  go_ret2
  rw [HE.out]
  exact ⟨rfl, rfl⟩

set_option maxRecDepth 100000 in
set_option maxHeartbeats 1000000 in
theorem rtwo_127m (a b c d : Nat) (w : World) (hc : a = c) (hd : b = d) (ha : c < 18446744073709551616) (hb : d < 18446744073709551616) (h0 : d ≠ 0) (hx : wrap64 (c : Int) ≠ -9223372036854775808) (hy : wrap64 (d : Int) = -1) :
    Calls Tryd.prog 17 #[.int .i64 127, .int .u64 a, .int .u64 b] w fun e w' => e = .returned (.tuple #[.int .u64 (twoA 127 a b).1, .int .i64 (twoA 127 a b).2]) ∧ w = w' := by
  subst hc
  subst hd
  have HE := Lib.hid (show twoA 127 a b = (IntKind.u64.wrap ((wrap64 (a : Int)).tdiv (wrap64 (b : Int))), 0) by exact sq64 a b ha hb h0 (fun t => hx t.1))
  have H0 := Lib.hid h0
  clear h0
  have HX := Lib.hid hx
  clear hx
  have HY := Lib.hid hy
  clear hy
  have HA := Lib.hid ha
  have HB := Lib.hid hb
  clear ha hb
  go_enter Tryd.func17, Tryd.ntmps17
  go_wp2_with fail
  refine (rcut_64 _ _).mono ?_
  rintro e w' ⟨rfl, rfl⟩
  go_wp2_with fail
  refine (rcut_64 _ _).mono ?_
  rintro e w' ⟨rfl, rfl⟩
  go_wp2_with fail
  refine (rdiv64_qm a b _ _ _ HA.out HB.out rfl rfl H0.out HX.out HY.out).mono ?_
  rintro e w' ⟨rfl, rfl⟩
  obtain ⟨z, hz⟩ : ∃ z : Nat, IntKind.u64.wrap ((wrap64 (a : Int)).tdiv (wrap64 (b : Int))) = (z : Int) := Int.eq_ofNat_of_zero_le (by first | exact Int.natCast_nonneg _ | (rw [IntKind.wrap_u64]; exact Int.emod_nonneg _ (by decide)))
  rw [hz]
  have HZ := Lib.hid hz
  clear hz
  go_wp2_with fail
  refine (rcut_64 _ _).mono ?_
  rintro e w' ⟨rfl, rfl⟩
  go_wp2_with fail
  go_ret2
  rw [HE.out]
  exact ⟨retE HZ.out.symm rfl, rfl⟩

set_option maxRecDepth 100000 in
set_option maxHeartbeats 1000000 in
theorem rtwo_127n (a b c d : Nat) (w : World) (hc : a = c) (hd : b = d) (ha : c < 18446744073709551616) (hb : d < 18446744073709551616) (h0 : d ≠ 0) (hx : wrap64 (c : Int) ≠ -9223372036854775808) (hy : wrap64 (d : Int) ≠ -1) :
    Calls Tryd.prog 17 #[.int .i64 127, .int .u64 a, .int .u64 b] w fun e w' => e = .returned (.tuple #[.int .u64 (twoA 127 a b).1, .int .i64 (twoA 127 a b).2]) ∧ w = w' := by
  subst hc
  subst hd
  have HE := Lib.hid (show twoA 127 a b = (IntKind.u64.wrap ((wrap64 (a : Int)).tdiv (wrap64 (b : Int))), 0) by exact sq64 a b ha hb h0 (fun t => hx t.1))
  have H0 := Lib.hid h0
  clear h0
  have HX := Lib.hid hx
  clear hx
  have HY := Lib.hid hy
  clear hy
  have HA := Lib.hid ha
  have HB := Lib.hid hb
  clear ha hb
  go_enter Tryd.func17, Tryd.ntmps17
  go_wp2_with fail
  refine (rcut_64 _ _).mono ?_
  rintro e w' ⟨rfl, rfl⟩
  go_wp2_with fail
  refine (rcut_64 _ _).mono ?_
  rintro e w' ⟨rfl, rfl⟩
  go_wp2_with fail
  refine (rdiv64_qn a b _ _ _ HA.out HB.out rfl rfl H0.out HX.out HY.out).mono ?_
  rintro e w' ⟨rfl, rfl⟩
  obtain ⟨z, hz⟩ : ∃ z : Nat, IntKind.u64.wrap ((wrap64 (a : Int)).tdiv (wrap64 (b : Int))) = (z : Int) := Int.eq_ofNat_of_zero_le (by first | exact Int.natCast_nonneg _ | (rw [IntKind.wrap_u64]; exact Int.emod_nonneg _ (by decide)))
  rw [hz]
  have HZ := Lib.hid hz
  clear hz
  go_wp2_with fail
  refine (rcut_64 _ _).mono ?_
  rintro e w' ⟨rfl, rfl⟩
  go_wp2_with fail
  go_ret2
  rw [HE.out]
  exact ⟨retE HZ.out.symm rfl, rfl⟩

set_option maxRecDepth 100000 in
set_option maxHeartbeats 1000000 in
theorem rtwo_127k (a b c d : Nat) (w : World) (hc : a = c) (hd : b = d) (ha : c < 18446744073709551616) (hb : d < 18446744073709551616) (h0 : d ≠ 0) (hx : wrap64 (c : Int) = -9223372036854775808) (hy : wrap64 (d : Int) ≠ -1) :
    Calls Tryd.prog 17 #[.int .i64 127, .int .u64 a, .int .u64 b] w fun e w' => e = .returned (.tuple #[.int .u64 (twoA 127 a b).1, .int .i64 (twoA 127 a b).2]) ∧ w = w' := by
  subst hc
  subst hd
  have HE := Lib.hid (show twoA 127 a b = (IntKind.u64.wrap ((wrap64 (a : Int)).tdiv (wrap64 (b : Int))), 0) by exact sq64 a b ha hb h0 (fun t => hy t.2))
  have H0 := Lib.hid h0
  clear h0
  have HX := Lib.hid hx
  clear hx
  have HY := Lib.hid hy
  clear hy
  have HA := Lib.hid ha
  have HB := Lib.hid hb
  clear ha hb
  go_enter Tryd.func17, Tryd.ntmps17
  go_wp2_with fail
  refine (rcut_64 _ _).mono ?_
  rintro e w' ⟨rfl, rfl⟩
  go_wp2_with fail
  refine (rcut_64 _ _).mono ?_
  rintro e w' ⟨rfl, rfl⟩
  go_wp2_with fail
  refine (rdiv64_qk a b _ _ _ HA.out HB.out rfl rfl H0.out HX.out HY.out).mono ?_
  rintro e w' ⟨rfl, rfl⟩
  obtain ⟨z, hz⟩ : ∃ z : Nat, IntKind.u64.wrap ((wrap64 (a : Int)).tdiv (wrap64 (b : Int))) = (z : Int) := Int.eq_ofNat_of_zero_le (by first | exact Int.natCast_nonneg _ | (rw [IntKind.wrap_u64]; exact Int.emod_nonneg _ (by decide)))
  rw [hz]
  have HZ := Lib.hid hz
  clear hz
  go_wp2_with fail
  refine (rcut_64 _ _).mono ?_
  rintro e w' ⟨rfl, rfl⟩
  go_wp2_with fail
  go_ret2
  rw [HE.out]
  exact ⟨retE HZ.out.symm rfl, rfl⟩

set_option maxRecDepth 100000 in
set_option maxHeartbeats 1000000 in
theorem rtwo_128u (a b c d : Nat) (w : World) (hc : a = c) (hd : b = d) (ha : c < 18446744073709551616) (hb : d < 18446744073709551616) (h0 : d ≠ 0) :
    Calls Tryd.prog 17 #[.int .i64 128, .int .u64 a, .int .u64 b] w fun e w' => e = .returned (.tuple #[.int .u64 (twoA 128 a b).1, .int .i64 (twoA 128 a b).2]) ∧ w = w' := by
  subst hc
  subst hd
  have HE := Lib.hid (show twoA 128 a b = (((a / b : Nat) : Int), 0) by exact uq64 a b ha hb h0)
  have H0 := Lib.hid h0
  clear h0
  have HA := Lib.hid ha
  have HB := Lib.hid hb
  clear ha hb
  go_enter Tryd.func17, Tryd.ntmps17
  go_wp2_with fail
  refine (rcut_64 _ _).mono ?_
  rintro e w' ⟨rfl, rfl⟩
  go_wp2_with fail
  refine (rcut_64 _ _).mono ?_
  rintro e w' ⟨rfl, rfl⟩
  go_wp2_with fail
  refine (rdiv64_u a b _ _ _ HA.out HB.out rfl rfl H0.out).mono ?_
  rintro e w' ⟨rfl, rfl⟩
  obtain ⟨z, hz⟩ : ∃ z : Nat, ((a / b : Nat) : Int) = (z : Int) := Int.eq_ofNat_of_zero_le (by first | exact Int.natCast_nonneg _ | (rw [IntKind.wrap_u64]; exact Int.emod_nonneg _ (by decide)))
  rw [hz]
  have HZ := Lib.hid hz
  clear hz
  go_wp2_with fail
  refine (rcut_64 _ _).mono ?_
  rintro e w' ⟨rfl, rfl⟩
  go_wp2_with fail
  go_ret2
  rw [HE.out]
  exact ⟨retE HZ.out.symm rfl, rfl⟩

set_option maxRecDepth 100000 in
set_option maxHeartbeats 1000000 in
theorem rtwo_129r1 (a b c d : Nat) (w : World) (hc : a = c) (hd : b = d) (ha : c < 18446744073709551616) (hb : d < 18446744073709551616) (h0 : d ≠ 0) (hy : wrap64 (d : Int) = -1) :
    Calls Tryd.prog 17 #[.int .i64 129, .int .u64 a, .int .u64 b] w fun e w' => e = .returned (.tuple #[.int .u64 (twoA 129 a b).1, .int .i64 (twoA 129 a b).2]) ∧ w = w' := by
  subst hc
  subst hd
  have HE := Lib.hid (show twoA 129 a b = (0, 0) by exact sr164 a b ha hb hy)
  have H0 := Lib.hid h0
  clear h0
  have HY := Lib.hid hy
  clear hy
  have HA := Lib.hid ha
  have HB := Lib.hid hb
  clear ha hb
  go_enter Tryd.func17, Tryd.ntmps17
  go_wp2_with fail
  refine (rcut_64 _ _).mono ?_
  rintro e w' ⟨rfl, rfl⟩
  go_wp2_with fail
  refine (rcut_64 _ _).mono ?_
  rintro e w' ⟨rfl, rfl⟩
  go_wp2_with fail
  refine (rdiv64_r1 a b _ _ _ HA.out HB.out rfl rfl H0.out HY.out).mono ?_
  rintro e w' ⟨rfl, rfl⟩
  go_wp2_with fail
  refine (rcut_64 _ _).mono ?_
  rintro e w' ⟨rfl, rfl⟩
  go_wp2_with fail
  go_ret2
  rw [HE.out]
  exact ⟨rfl, rfl⟩

set_option maxRecDepth 100000 in
set_option maxHeartbeats 1000000 in
theorem rtwo_129r (a b c d : Nat) (w : World) (hc : a = c) (hd : b = d) (ha : c < 18446744073709551616) (hb : d < 18446744073709551616) (h0 : d ≠ 0) (hy : wrap64 (d : Int) ≠ -1) :
    Calls Tryd.prog 17 #[.int .i64 129, .int .u64 a, .int .u64 b] w fun e w' => e = .returned (.tuple #[.int .u64 (twoA 129 a b).1, .int .i64 (twoA 129 a b).2]) ∧ w = w' := by
  subst hc
  subst hd
  have HE := Lib.hid (show twoA 129 a b = (IntKind.u64.wrap ((wrap64 (a : Int)).tmod (wrap64 (b : Int))), 0) by exact sr64 a b ha hb h0 hy)
  have H0 := Lib.hid h0
  clear h0
  have HY := Lib.hid hy
  clear hy
  have HA := Lib.hid ha
  have HB := Lib.hid hb
  clear ha hb
  go_enter Tryd.func17, Tryd.ntmps17
  go_wp2_with fail
  refine (rcut_64 _ _).mono ?_
  rintro e w' ⟨rfl, rfl⟩
  go_wp2_with fail
  refine (rcut_64 _ _).mono ?_
  rintro e w' ⟨rfl, rfl⟩
  go_wp2_with fail
  refine (rdiv64_r a b _ _ _ HA.out HB.out rfl rfl H0.out HY.out).mono ?_
  rintro e w' ⟨rfl, rfl⟩
  obtain ⟨z, hz⟩ : ∃ z : Nat, IntKind.u64.wrap ((wrap64 (a : Int)).tmod (wrap64 (b : Int))) = (z : Int) := Int.eq_ofNat_of_zero_le (by first | exact Int.natCast_nonneg _ | (rw [IntKind.wrap_u64]; exact Int.emod_nonneg _ (by decide)))
  rw [hz]
  have HZ := Lib.hid hz
  clear hz
  go_wp2_with fail
  refine (rcut_64 _ _).mono ?_
  rintro e w' ⟨rfl, rfl⟩
  go_wp2_with fail
  go_ret2
  rw [HE.out]
  exact ⟨retE HZ.out.symm rfl, rfl⟩

set_option maxRecDepth 100000 in
set_option maxHeartbeats 1000000 in
theorem rtwo_130ru (a b c d : Nat) (w : World) (hc : a = c) (hd : b = d) (ha : c < 18446744073709551616) (hb : d < 18446744073709551616) (h0 : d ≠ 0) :
    Calls Tryd.prog 17 #[.int .i64 130, .int .u64 a, .int .u64 b] w fun e w' => e = .returned (.tuple #[.int .u64 (twoA 130 a b).1, .int .i64 (twoA 130 a b).2]) ∧ w = w' := by
  subst hc
  subst hd
  have HE := Lib.hid (show twoA 130 a b = (((a % b : Nat) : Int), 0) by exact ur64 a b ha hb h0)
  have H0 := Lib.hid h0
  clear h0
  have HA := Lib.hid ha
  have HB := Lib.hid hb
  clear ha hb
  go_enter Tryd.func17, Tryd.ntmps17
  go_wp2_with fail
  refine (rcut_64 _ _).mono ?_
  rintro e w' ⟨rfl, rfl⟩
  go_wp2_with fail
  refine (rcut_64 _ _).mono ?_
  rintro e w' ⟨rfl, rfl⟩
  go_wp2_with fail
  refine (rdiv64_ru a b _ _ _ HA.out HB.out rfl rfl H0.out).mono ?_
  rintro e w' ⟨rfl, rfl⟩
  obtain ⟨z, hz⟩ : ∃ z : Nat, ((a % b : Nat) : Int) = (z : Int) := Int.eq_ofNat_of_zero_le (by first | exact Int.natCast_nonneg _ | (rw [IntKind.wrap_u64]; exact Int.emod_nonneg _ (by decide)))
  rw [hz]
  have HZ := Lib.hid hz
  clear hz
  go_wp2_with fail
  refine (rcut_64 _ _).mono ?_
  rintro e w' ⟨rfl, rfl⟩
  go_wp2_with fail
  go_ret2
  rw [HE.out]
  exact ⟨retE HZ.out.symm rfl, rfl⟩
end Go.Proofs.YtebikmnegemggaaDoor.Num
