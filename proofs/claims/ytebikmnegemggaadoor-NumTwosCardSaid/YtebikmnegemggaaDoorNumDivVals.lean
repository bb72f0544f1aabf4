/-
  What num.Two answers where it divides. No condition beyond what each theorem names.
-/
import Derived.Test.YtebikmnegemggaaDoorNumVals
namespace Go.Proofs.YtebikmnegemggaaDoor.Num
open Go.RowKit
set_option linter.unusedVariables false

theorem divA_z (least x : Int) (rest : Bool) : divA least x 0 rest = (0, false) := by unfold divA; rw [if_pos (.inl rfl)]
theorem divA_l (least : Int) : divA least least (-1) false = (0, false) := by unfold divA; rw [if_pos (.inr ⟨rfl, rfl, rfl⟩)]
theorem divA_q (least x y : Int) (h : y ≠ 0) (hl : ¬ (x = least ∧ y = -1)) : divA least x y false = (x.tdiv y, true) := by
  unfold divA
  rw [if_neg (fun hh => hh.elim h (fun t => hl ⟨t.1, t.2.1⟩)), if_neg (fun t => by cases t.2), if_neg (by decide)]
theorem divA_r (least x y : Int) (h : y ≠ 0) (hl : y ≠ -1) : divA least x y true = (x.tmod y, true) := by
  unfold divA
  rw [if_neg (fun hh => hh.elim h (fun t => hl t.2.1)), if_neg (fun t => hl t.1), if_pos rfl]
theorem divA_r1 (least x : Int) : divA least x (-1) true = (0, true) := by
  unfold divA
  rw [if_neg (fun hh => hh.elim (by omega) (fun t => by cases t.2.2)), if_pos ⟨rfl, rfl⟩]
theorem divU_z (x : Int) (rest : Bool) : divU x 0 rest = (0, false) := by unfold divU; rw [if_pos rfl]
theorem divU_q (x y : Int) (h : y ≠ 0) : divU x y false = (x / y, true) := by unfold divU; rw [if_neg h, if_neg (by decide)]
theorem divU_r (x y : Int) (h : y ≠ 0) : divU x y true = (x % y, true) := by unfold divU; rw [if_neg h, if_pos rfl]
theorem back_gen (M a b Q R : Nat) (x y : Int) (hxa : x % (M : Int) = (a : Int)) (hyb : y % (M : Int) = (b : Int)) (hQ : (Q : Int) = x.tdiv y % (M : Int)) (hR : (R : Int) = x.tmod y % (M : Int)) : (Q * b % M + R) % M = a := by
  have h : ((Q : Int) * b % M + R) % M = (a : Int) := by
    rw [hQ, hR, ← hyb, ← Int.mul_emod, ← Int.add_emod, Int.mul_comm, Int.add_comm, Int.tmod_add_mul_tdiv, hxa]
  have h4 : (((Q * b % M + R) % M : Nat) : Int) = (a : Int) := by
    rw [← h]
    push_cast
    rfl
  exact Int.ofNat.inj h4

theorem sq32 (a b : Nat) (ha : a < 4294967296) (hb : b < 4294967296) (h0 : b ≠ 0) (hl : ¬ (wrap32 (a : Int) = -2147483648 ∧ wrap32 (b : Int) = -1)) : twoA 109 a b = ((wrap32 (a : Int)).tdiv (wrap32 (b : Int)) % 4294967296, 0) := by
  rw [twoA_r32 3 a b (by decide) _ (by decide), r32_3, Nat.mod_eq_of_lt ha, Nat.mod_eq_of_lt hb, divA_q _ _ _ (by unfold wrap32; omega) hl]
  rfl
theorem sr32 (a b : Nat) (ha : a < 4294967296) (hb : b < 4294967296) (h0 : b ≠ 0) (hl : wrap32 (b : Int) ≠ -1) : twoA 111 a b = ((wrap32 (a : Int)).tmod (wrap32 (b : Int)) % 4294967296, 0) := by
  rw [twoA_r32 5 a b (by decide) _ (by decide), r32_5, Nat.mod_eq_of_lt ha, Nat.mod_eq_of_lt hb, divA_r _ _ _ (by unfold wrap32; omega) hl]
  rfl
theorem sr132 (a b : Nat) (ha : a < 4294967296) (hb : b < 4294967296) (hl : wrap32 (b : Int) = -1) : twoA 111 a b = (0, 0) := by
  rw [twoA_r32 5 a b (by decide) _ (by decide), r32_5, Nat.mod_eq_of_lt ha, Nat.mod_eq_of_lt hb, hl, divA_r1]
  rfl
theorem sl32 (a b : Nat) (ha : a < 4294967296) (hb : b < 4294967296) (hx : wrap32 (a : Int) = -2147483648) (hl : wrap32 (b : Int) = -1) : twoA 109 a b = (0, 6) := by
  rw [twoA_r32 3 a b (by decide) _ (by decide), r32_3, Nat.mod_eq_of_lt ha, Nat.mod_eq_of_lt hb, hl, hx, divA_l]
  rfl
theorem sz32 (a : Nat) (ha : a < 4294967296) : twoA 109 a 0 = (0, 6) ∧ twoA 111 a 0 = (0, 6) := by
  rw [twoA_r32 3 a 0 (by decide) _ (by decide), r32_3, twoA_r32 5 a 0 (by decide) _ (by decide), r32_5, Nat.mod_eq_of_lt ha, Nat.mod_eq_of_lt (show 0 < 4294967296 by decide)]
  have e : wrap32 ((0 : Nat) : Int) = 0 := by unfold wrap32; omega
  rw [e, divA_z, divA_z]
  exact ⟨rfl, rfl⟩
theorem uq32 (a b : Nat) (ha : a < 4294967296) (hb : b < 4294967296) (h0 : b ≠ 0) : twoA 110 a b = (((a / b : Nat) : Int), 0) := by
  rw [twoA_r32 4 a b (by decide) _ (by decide), r32_4, Nat.mod_eq_of_lt ha, Nat.mod_eq_of_lt hb, divU_q _ _ (by omega)]
  rfl
theorem ur32 (a b : Nat) (ha : a < 4294967296) (hb : b < 4294967296) (h0 : b ≠ 0) : twoA 112 a b = (((a % b : Nat) : Int), 0) := by
  rw [twoA_r32 6 a b (by decide) _ (by decide), r32_6, Nat.mod_eq_of_lt ha, Nat.mod_eq_of_lt hb, divU_r _ _ (by omega)]
  rfl
theorem uz32 (a : Nat) (ha : a < 4294967296) : twoA 110 a 0 = (0, 6) ∧ twoA 112 a 0 = (0, 6) := by
  rw [twoA_r32 4 a 0 (by decide) _ (by decide), r32_4, twoA_r32 6 a 0 (by decide) _ (by decide), r32_6, Nat.mod_eq_of_lt ha, Nat.mod_eq_of_lt (show 0 < 4294967296 by decide)]
  show divRU (divU _ 0 false) = _ ∧ divRU (divU _ 0 true) = _
  rw [divU_z, divU_z]
  exact ⟨rfl, rfl⟩
/-- quotient times divisor and rest is the number, by lowest bits -/
theorem back32 (a b : Nat) (ha : a < 4294967296) (hb : b < 4294967296) (Q R : Nat) (hQ : (Q : Int) = ((wrap32 (a : Int)).tdiv (wrap32 (b : Int))) % 4294967296) (hR : (R : Int) = ((wrap32 (a : Int)).tmod (wrap32 (b : Int))) % 4294967296) : (Q * b % 4294967296 + R) % 4294967296 = a := by
  have hxa : wrap32 (a : Int) % 4294967296 = (a : Int) := by clear hQ hR; unfold wrap32; omega
  have hyb : wrap32 (b : Int) % 4294967296 = (b : Int) := by clear hQ hR; unfold wrap32; omega
  exact back_gen 4294967296 a b Q R _ _ hxa hyb hQ hR
theorem backU32 (a b : Nat) (ha : a < 4294967296) (hb : b < 4294967296) : (a / b * b % 4294967296 + a % b) % 4294967296 = a := by
  have h1 := Nat.div_add_mod a b
  have h2 : a / b * b = b * (a / b) := Nat.mul_comm _ _
  have h3 : a / b * b ≤ a := by omega
  rw [Nat.mod_eq_of_lt (by omega)]
  rw [Nat.mod_eq_of_lt (by omega)]
  omega

theorem sq64 (a b : Nat) (ha : a < 18446744073709551616) (hb : b < 18446744073709551616) (h0 : b ≠ 0) (hl : ¬ (wrap64 (a : Int) = -9223372036854775808 ∧ wrap64 (b : Int) = -1)) : twoA 127 a b = (IntKind.u64.wrap ((wrap64 (a : Int)).tdiv (wrap64 (b : Int))), 0) := by
  rw [twoA_r64 3 a b (by decide) _ (by decide), r64_3, divA_q _ _ _ (by unfold wrap64; omega) hl]
  rfl
theorem sr64 (a b : Nat) (ha : a < 18446744073709551616) (hb : b < 18446744073709551616) (h0 : b ≠ 0) (hl : wrap64 (b : Int) ≠ -1) : twoA 129 a b = (IntKind.u64.wrap ((wrap64 (a : Int)).tmod (wrap64 (b : Int))), 0) := by
  rw [twoA_r64 5 a b (by decide) _ (by decide), r64_5, divA_r _ _ _ (by unfold wrap64; omega) hl]
  rfl
theorem sr164 (a b : Nat) (ha : a < 18446744073709551616) (hb : b < 18446744073709551616) (hl : wrap64 (b : Int) = -1) : twoA 129 a b = (0, 0) := by
  rw [twoA_r64 5 a b (by decide) _ (by decide), r64_5, hl, divA_r1]
  rfl
theorem sl64 (a b : Nat) (ha : a < 18446744073709551616) (hb : b < 18446744073709551616) (hx : wrap64 (a : Int) = -9223372036854775808) (hl : wrap64 (b : Int) = -1) : twoA 127 a b = (0, 6) := by
  rw [twoA_r64 3 a b (by decide) _ (by decide), r64_3, hl, hx, divA_l]
  rfl
theorem sz64 (a : Nat) (ha : a < 18446744073709551616) : twoA 127 a 0 = (0, 6) ∧ twoA 129 a 0 = (0, 6) := by
  rw [twoA_r64 3 a 0 (by decide) _ (by decide), r64_3, twoA_r64 5 a 0 (by decide) _ (by decide), r64_5]
  have e : wrap64 ((0 : Nat) : Int) = 0 := by unfold wrap64; omega
  rw [e, divA_z, divA_z]
  exact ⟨rfl, rfl⟩
theorem uq64 (a b : Nat) (ha : a < 18446744073709551616) (hb : b < 18446744073709551616) (h0 : b ≠ 0) : twoA 128 a b = (((a / b : Nat) : Int), 0) := by
  rw [twoA_r64 4 a b (by decide) _ (by decide), r64_4, divU_q _ _ (by omega)]
  rfl
theorem ur64 (a b : Nat) (ha : a < 18446744073709551616) (hb : b < 18446744073709551616) (h0 : b ≠ 0) : twoA 130 a b = (((a % b : Nat) : Int), 0) := by
  rw [twoA_r64 6 a b (by decide) _ (by decide), r64_6, divU_r _ _ (by omega)]
  rfl
theorem uz64 (a : Nat) (ha : a < 18446744073709551616) : twoA 128 a 0 = (0, 6) ∧ twoA 130 a 0 = (0, 6) := by
  rw [twoA_r64 4 a 0 (by decide) _ (by decide), r64_4, twoA_r64 6 a 0 (by decide) _ (by decide), r64_6]
  show divRU (divU _ 0 false) = _ ∧ divRU (divU _ 0 true) = _
  rw [divU_z, divU_z]
  exact ⟨rfl, rfl⟩
/-- quotient times divisor and rest is the number, by lowest bits -/
theorem back64 (a b : Nat) (ha : a < 18446744073709551616) (hb : b < 18446744073709551616) (Q R : Nat) (hQ : (Q : Int) = ((wrap64 (a : Int)).tdiv (wrap64 (b : Int))) % 18446744073709551616) (hR : (R : Int) = ((wrap64 (a : Int)).tmod (wrap64 (b : Int))) % 18446744073709551616) : (Q * b % 18446744073709551616 + R) % 18446744073709551616 = a := by
  have hxa : wrap64 (a : Int) % 18446744073709551616 = (a : Int) := by clear hQ hR; unfold wrap64; omega
  have hyb : wrap64 (b : Int) % 18446744073709551616 = (b : Int) := by clear hQ hR; unfold wrap64; omega
  exact back_gen 18446744073709551616 a b Q R _ _ hxa hyb hQ hR
theorem backU64 (a b : Nat) (ha : a < 18446744073709551616) (hb : b < 18446744073709551616) : (a / b * b % 18446744073709551616 + a % b) % 18446744073709551616 = a := by
  have h1 := Nat.div_add_mod a b
  have h2 : a / b * b = b * (a / b) := Nat.mul_comm _ _
  have h3 : a / b * b ≤ a := by omega
  rw [Nat.mod_eq_of_lt (by omega)]
  rw [Nat.mod_eq_of_lt (by omega)]
  omega
end Go.Proofs.YtebikmnegemggaaDoor.Num
