/-
  What num.Two answers, as plain numbers, code by code. No condition beyond what each theorem names.
-/
import Derived.Test.YtebikmnegemggaaDoorNumEx
namespace Go.Proofs.YtebikmnegemggaaDoor.Num
open Go.RowKit
set_option linter.unusedVariables false

theorem pow2c (i : Nat) : ((2 : Int) ^ i) = ((2 ^ i : Nat) : Int) := by rw [Int.natCast_pow]; rfl
theorem bits_xor_u32_nat (a b : Nat) (ha : a < 4294967296) (hb : b < 4294967296) : bits .xor .u32 (a : Int) (b : Int) = ((a ^^^ b : Nat) : Int) := by
  have hx : a ^^^ b < 2 ^ 32 := Nat.xor_lt_two_pow (by omega) (by omega)
  have h1 : (BitVec.ofInt 32 (a : Int)).toNat = a := by
    rw [BitVec.ofInt_natCast, BitVec.toNat_ofNat]; exact Nat.mod_eq_of_lt (by omega)
  have h2 : (BitVec.ofInt 32 (b : Int)).toNat = b := by
    rw [BitVec.ofInt_natCast, BitVec.toNat_ofNat]; exact Nat.mod_eq_of_lt (by omega)
  unfold bits
  show IntKind.u32.wrap ((BitVec.ofInt 32 (a : Int) ^^^ BitVec.ofInt 32 (b : Int)).toNat : Int) = _
  rw [BitVec.toNat_xor, h1, h2, IntKind.wrap_u32]
  omega

theorem v64_add (a b : Nat) (ha : a < 18446744073709551616) (hb : b < 18446744073709551616) : (twoA 124 a b).1 = ((((a + b) % 18446744073709551616) : Nat) : Int) := by
  rw [twoA_r64 0 a b (by decide) _ (by decide), r64_p 0 _ _ (by decide) (by decide) (by decide) (by decide)]
  show IntKind.u64.wrap ((a : Int) + b) = _
  rw [IntKind.wrap_u64]
  omega

theorem v64_sub (a b : Nat) (ha : a < 18446744073709551616) (hb : b < 18446744073709551616) : (twoA 125 a b).1 = ((((a + (18446744073709551616 - b)) % 18446744073709551616) : Nat) : Int) := by
  rw [twoA_r64 1 a b (by decide) _ (by decide), r64_p 1 _ _ (by decide) (by decide) (by decide) (by decide)]
  show IntKind.u64.wrap ((a : Int) - b) = _
  rw [IntKind.wrap_u64]
  omega

theorem v64_mul (a b : Nat) (ha : a < 18446744073709551616) (hb : b < 18446744073709551616) : (twoA 126 a b).1 = (((a * b % 18446744073709551616) : Nat) : Int) := by
  rw [twoA_r64 2 a b (by decide) _ (by decide), r64_p 2 _ _ (by decide) (by decide) (by decide) (by decide)]
  show IntKind.u64.wrap ((a : Int) * b) = _
  rw [IntKind.wrap_u64, ← Int.natCast_mul]
  omega

theorem v64_and (a b : Nat) (ha : a < 18446744073709551616) (hb : b < 18446744073709551616) : (twoA 131 a b).1 = (((a &&& b) : Nat) : Int) := by
  rw [twoA_r64 7 a b (by decide) _ (by decide), r64_p 7 _ _ (by decide) (by decide) (by decide) (by decide)]
  exact bits_and_u64_nat a b ha hb

theorem v64_or (a b : Nat) (ha : a < 18446744073709551616) (hb : b < 18446744073709551616) : (twoA 132 a b).1 = (((a ||| b) : Nat) : Int) := by
  rw [twoA_r64 8 a b (by decide) _ (by decide), r64_p 8 _ _ (by decide) (by decide) (by decide) (by decide)]
  exact bits_or_u64_nat a b ha hb

theorem v64_xor (a b : Nat) (ha : a < 18446744073709551616) (hb : b < 18446744073709551616) : (twoA 133 a b).1 = (((a ^^^ b) : Nat) : Int) := by
  rw [twoA_r64 9 a b (by decide) _ (by decide), r64_p 9 _ _ (by decide) (by decide) (by decide) (by decide)]
  exact bits_xor_u64_nat a b ha hb

theorem v64_shl (a b : Nat) (ha : a < 18446744073709551616) (hb : b < 18446744073709551616) : (twoA 134 a b).1 = (((a * 2 ^ (b % 64) % 18446744073709551616) : Nat) : Int) := by
  rw [twoA_r64 10 a b (by decide) _ (by decide), r64_p 10 _ _ (by decide) (by decide) (by decide) (by decide)]
  show IntKind.u64.wrap ((a : Int) * 2 ^ (b % 64)) = _
  rw [IntKind.wrap_u64, pow2c, ← Int.natCast_mul]
  omega

theorem v64_shru (a b : Nat) (ha : a < 18446744073709551616) (hb : b < 18446744073709551616) : (twoA 136 a b).1 = (((a / 2 ^ (b % 64)) : Nat) : Int) := by
  rw [twoA_r64 12 a b (by decide) _ (by decide), r64_p 12 _ _ (by decide) (by decide) (by decide) (by decide)]
  show (a : Int) / 2 ^ (b % 64) = _
  rw [pow2c, Int.natCast_ediv]

theorem v64_rotl (a b : Nat) (ha : a < 18446744073709551616) (hb : b < 18446744073709551616) : (twoA 137 a b).1 = (((rotl 64 a (b % 64)) : Nat) : Int) := by
  rw [twoA_r64 13 a b (by decide) _ (by decide), r64_p 13 _ _ (by decide) (by decide) (by decide) (by decide)]
  rfl

theorem v64_rotr (a b : Nat) (ha : a < 18446744073709551616) (hb : b < 18446744073709551616) : (twoA 138 a b).1 = (((rotl 64 a ((64 - b % 64) % 64)) : Nat) : Int) := by
  rw [twoA_r64 14 a b (by decide) _ (by decide), r64_p 14 _ _ (by decide) (by decide) (by decide) (by decide)]
  rfl

theorem rotl32_lt (a s : Nat) (ha : a < 4294967296) : rotl 32 a s < 4294967296 := by
  have h1 : a * 2 ^ s % 2 ^ 32 < 2 ^ 32 := Nat.mod_lt _ (by decide)
  have h2 := Nat.div_le_self a (2 ^ (32 - s))
  exact Nat.or_lt_two_pow (n := 32) h1 (by omega)

theorem v32_add (a b : Nat) (ha : a < 4294967296) (hb : b < 4294967296) : (twoA 106 a b).1 = ((((a + b) % 4294967296) : Nat) : Int) := by
  rw [twoA_r32 0 a b (by decide) _ (by decide), r32_p 0 _ _ (by decide) (by decide) (by decide) (by decide), Nat.mod_eq_of_lt ha, Nat.mod_eq_of_lt hb]
  show ((a : Int) + b) % 4294967296 = _
  omega

theorem v32_sub (a b : Nat) (ha : a < 4294967296) (hb : b < 4294967296) : (twoA 107 a b).1 = ((((a + (4294967296 - b)) % 4294967296) : Nat) : Int) := by
  rw [twoA_r32 1 a b (by decide) _ (by decide), r32_p 1 _ _ (by decide) (by decide) (by decide) (by decide), Nat.mod_eq_of_lt ha, Nat.mod_eq_of_lt hb]
  show ((a : Int) - b) % 4294967296 = _
  omega

theorem v32_mul (a b : Nat) (ha : a < 4294967296) (hb : b < 4294967296) : (twoA 108 a b).1 = (((a * b % 4294967296) : Nat) : Int) := by
  rw [twoA_r32 2 a b (by decide) _ (by decide), r32_p 2 _ _ (by decide) (by decide) (by decide) (by decide), Nat.mod_eq_of_lt ha, Nat.mod_eq_of_lt hb]
  show ((a : Int) * b) % 4294967296 = _
  rw [← Int.natCast_mul]
  omega

theorem v32_and (a b : Nat) (ha : a < 4294967296) (hb : b < 4294967296) : (twoA 113 a b).1 = (((a &&& b) : Nat) : Int) := by
  rw [twoA_r32 7 a b (by decide) _ (by decide), r32_p 7 _ _ (by decide) (by decide) (by decide) (by decide), Nat.mod_eq_of_lt ha, Nat.mod_eq_of_lt hb]
  show IntKind.u64.wrap (bits .and .u32 (a : Int) (b : Int)) = _
  have h := (bits_nat .u32 32 (by decide) wraps_u32 a b ha hb).1
  have h2 : a &&& b < 2 ^ 32 := Nat.and_lt_two_pow _ hb
  rw [h, IntKind.wrap_u64]
  omega

theorem v32_or (a b : Nat) (ha : a < 4294967296) (hb : b < 4294967296) : (twoA 114 a b).1 = (((a ||| b) : Nat) : Int) := by
  rw [twoA_r32 8 a b (by decide) _ (by decide), r32_p 8 _ _ (by decide) (by decide) (by decide) (by decide), Nat.mod_eq_of_lt ha, Nat.mod_eq_of_lt hb]
  show IntKind.u64.wrap (bits .or .u32 (a : Int) (b : Int)) = _
  have h := (bits_nat .u32 32 (by decide) wraps_u32 a b ha hb).2
  have h2 : a ||| b < 2 ^ 32 := Nat.or_lt_two_pow ha hb
  rw [h, IntKind.wrap_u64]
  omega

theorem v32_xor (a b : Nat) (ha : a < 4294967296) (hb : b < 4294967296) : (twoA 115 a b).1 = (((a ^^^ b) : Nat) : Int) := by
  rw [twoA_r32 9 a b (by decide) _ (by decide), r32_p 9 _ _ (by decide) (by decide) (by decide) (by decide), Nat.mod_eq_of_lt ha, Nat.mod_eq_of_lt hb]
  show IntKind.u64.wrap (bits .xor .u32 (a : Int) (b : Int)) = _
  have h2 : a ^^^ b < 2 ^ 32 := Nat.xor_lt_two_pow ha hb
  rw [bits_xor_u32_nat a b ha hb, IntKind.wrap_u64]
  omega

theorem v32_shl (a b : Nat) (ha : a < 4294967296) (hb : b < 4294967296) : (twoA 116 a b).1 = (((a * 2 ^ (b % 32) % 4294967296) : Nat) : Int) := by
  rw [twoA_r32 10 a b (by decide) _ (by decide), r32_p 10 _ _ (by decide) (by decide) (by decide) (by decide), Nat.mod_eq_of_lt ha, Nat.mod_eq_of_lt hb]
  show (a : Int) * 2 ^ (b % 32) % 4294967296 = _
  rw [pow2c, ← Int.natCast_mul]
  omega

theorem v32_shru (a b : Nat) (ha : a < 4294967296) (hb : b < 4294967296) : (twoA 118 a b).1 = (((a / 2 ^ (b % 32)) : Nat) : Int) := by
  rw [twoA_r32 12 a b (by decide) _ (by decide), r32_p 12 _ _ (by decide) (by decide) (by decide) (by decide), Nat.mod_eq_of_lt ha, Nat.mod_eq_of_lt hb]
  show IntKind.u64.wrap ((a : Int) / 2 ^ (b % 32)) = _
  have e : (a : Int) / 2 ^ (b % 32) = ((a / 2 ^ (b % 32) : Nat) : Int) := by rw [pow2c, Int.natCast_ediv]
  have := Nat.div_le_self a (2 ^ (b % 32))
  rw [e, IntKind.wrap_u64]
  generalize a / 2 ^ (b % 32) = q at *
  omega

theorem v32_rotl (a b : Nat) (ha : a < 4294967296) (hb : b < 4294967296) : (twoA 119 a b).1 = (((rotl 32 a (b % 32)) : Nat) : Int) := by
  rw [twoA_r32 13 a b (by decide) _ (by decide), r32_p 13 _ _ (by decide) (by decide) (by decide) (by decide), Nat.mod_eq_of_lt ha, Nat.mod_eq_of_lt hb]
  show IntKind.u64.wrap ((rotl 32 a (b % 32) : Nat) : Int) = _
  have h := rotl32_lt a (b % 32) ha
  rw [IntKind.wrap_u64]
  omega

theorem v32_rotr (a b : Nat) (ha : a < 4294967296) (hb : b < 4294967296) : (twoA 120 a b).1 = (((rotl 32 a ((32 - b % 32) % 32)) : Nat) : Int) := by
  rw [twoA_r32 14 a b (by decide) _ (by decide), r32_p 14 _ _ (by decide) (by decide) (by decide) (by decide), Nat.mod_eq_of_lt ha, Nat.mod_eq_of_lt hb]
  show IntKind.u64.wrap ((rotl 32 a ((32 - b % 32) % 32) : Nat) : Int) = _
  have h := rotl32_lt a ((32 - b % 32) % 32) ha
  rw [IntKind.wrap_u64]
  omega
end Go.Proofs.YtebikmnegemggaaDoor.Num
