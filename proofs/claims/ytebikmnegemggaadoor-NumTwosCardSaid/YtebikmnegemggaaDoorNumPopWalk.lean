/-
  What math/bits.OnesCount64 and OnesCount32 answer: how many bits are 1. No condition beyond what each theorem names.
-/
import Derived.Test.YtebikmnegemggaaDoorNumDivVals
import Derived.Test.YtebikmnegemggaaDoorNumPop
import Derived.Test.YtebikmnegemggaaDoorShelf
import Derived.Lib.BitFns
import Derived.Lib.Tables
import Derived.Deep.QuietTactic
import Derived.BigQuiet
namespace Go.Proofs.YtebikmnegemggaaDoor.Num
open Go.RowKit
set_option linter.unusedVariables false

theorem and_mask_i64 (x : Int) (j : Nat) (hj : j ≤ 62) : bits .and .i64 x ((2 ^ j - 1 : Nat) : Int) = x % 2 ^ j := by
  unfold bits
  have h2 : (BitVec.ofInt 64 ((2 ^ j - 1 : Nat) : Int)).toNat = 2 ^ j - 1 := by
    rw [BitVec.ofInt_natCast, BitVec.toNat_ofNat]
    have : (2 : Nat) ^ j ≤ 2 ^ 62 := Nat.pow_le_pow_right (by decide) hj
    exact Nat.mod_eq_of_lt (by omega)
  show IntKind.i64.wrap ((BitVec.ofInt 64 x &&& BitVec.ofInt 64 ((2 ^ j - 1 : Nat) : Int)).toNat : Int) = _
  rw [BitVec.toNat_and, h2, Nat.and_two_pow_sub_one_eq_mod, BitVec.toNat_ofInt]
  have hp : (2 : Nat) ^ j ≤ 2 ^ 62 := Nat.pow_le_pow_right (by decide) hj
  have hp0 : 0 < (2 : Nat) ^ j := Nat.pow_pos (by decide)
  have e : (((x % 2 ^ 64).toNat % 2 ^ j : Nat) : Int) = x % 2 ^ j := by
    rw [Int.natCast_emod, Int.toNat_of_nonneg (Int.emod_nonneg _ (by decide)), Int.natCast_pow]
    show x % 2 ^ 64 % 2 ^ j = x % 2 ^ j
    refine Int.emod_emod_of_dvd _ ⟨2 ^ (64 - j), ?_⟩
    rw [← Int.pow_add]
    congr 1
    omega
  have e64 : ((2 ^ 64 : Nat) : Int) = 2 ^ 64 := rfl
  have hc : ((2 ^ j : Nat) : Int) = 2 ^ j := by rw [Int.natCast_pow]; rfl
  have hlt := Int.emod_lt_of_pos x (show (0 : Int) < 2 ^ j by omega)
  have hge := Int.emod_nonneg x (show (2 : Int) ^ j ≠ 0 by omega)
  rw [e64, e, IntKind.wrap_i64]
  omega

theorem and127 (x : Int) : bits .and .i64 x 127 = x % 128 := and_mask_i64 x 7 (by decide)

theorem and127w (x : Nat) : bits .and .i64 (wrap64 (x : Int)) 127 = ((x % 128 : Nat) : Int) := by
  rw [and127]
  unfold wrap64
  omega

set_option maxRecDepth 100000 in
/-- the table of a byte's bits, as the program writes it -/
theorem fold_pop : (⟨((([0, 1, 1, 2, 1, 2, 2, 3, 1, 2, 2, 3, 2, 3, 3, 4, 1, 2, 2, 3, 2, 3, 3, 4, 2, 3, 3, 4, 3, 4, 4, 5, 1, 2, 2, 3, 2, 3, 3, 4, 2, 3, 3, 4, 3, 4, 4, 5, 2, 3, 3, 4, 3, 4, 4, 5, 3, 4, 4, 5, 4, 5, 5, 6] : List UInt8).append [1, 2, 2, 3, 2, 3, 3, 4, 2, 3, 3, 4, 3, 4, 4, 5, 2, 3, 3, 4, 3, 4, 4, 5, 3, 4, 4, 5, 4, 5, 5, 6, 2, 3, 3, 4, 3, 4, 4, 5, 3, 4, 4, 5, 4, 5, 5, 6, 3, 4, 4, 5, 4, 5, 5, 6, 4, 5, 5, 6, 5, 6, 6, 7]).append ([1, 2, 2, 3, 2, 3, 3, 4, 2, 3, 3, 4, 3, 4, 4, 5, 2, 3, 3, 4, 3, 4, 4, 5, 3, 4, 4, 5, 4, 5, 5, 6, 2, 3, 3, 4, 3, 4, 4, 5, 3, 4, 4, 5, 4, 5, 5, 6, 3, 4, 4, 5, 4, 5, 5, 6, 4, 5, 5, 6, 5, 6, 6, 7].append [2, 3, 3, 4, 3, 4, 4, 5, 3, 4, 4, 5, 4, 5, 5, 6, 3, 4, 4, 5, 4, 5, 5, 6, 4, 5, 5, 6, 5, 6, 6, 7, 3, 4, 4, 5, 4, 5, 5, 6, 4, 5, 5, 6, 5, 6, 6, 7, 4, 5, 5, 6, 5, 6, 6, 7, 5, 6, 6, 7, 6, 7, 7, 8])).toArray⟩ : ByteArray) = Lib.pop8tab := by kernel_rfl
set_option maxRecDepth 100000 in
set_option maxHeartbeats 1000000 in
theorem ones64_any' (x : Nat) (w : World) (hx : x < 18446744073709551616) :
    Calls Tryd.prog 48 #[.int .u64 x] w fun e w' => e = .returned (.int .i64 ((pc 64 x : Nat) : Int)) ∧ w = w' := by
  have hd : (x : Int) / 2 = ((x / 2 : Nat) : Int) := by omega
  obtain ⟨p, hp⟩ : ∃ p, x / 2 &&& 6148914691236517205 = p := ⟨_, rfl⟩
  obtain ⟨q, hq⟩ : ∃ q, x &&& 6148914691236517205 = q := ⟨_, rfl⟩
  have e1 : bits .and .u64 ((x : Int) / 2) 6148914691236517205 = (p : Int) := by rw [← hp, hd]; exact bits_and_u64_nat _ _ (by omega) (by decide)
  have e2 : bits .and .u64 (x : Int) 6148914691236517205 = (q : Int) := by rw [← hq]; exact bits_and_u64_nat _ _ (by omega) (by decide)
  have lp : p ≤ 6148914691236517205 := by rw [← hp]; exact Nat.and_le_right
  have lq : q ≤ 6148914691236517205 := by rw [← hq]; exact Nat.and_le_right
  obtain ⟨x1, h1⟩ : ∃ x1, x1 = p + q := ⟨_, rfl⟩
  have w1 : IntKind.u64.wrap ((p : Int) + q) = (x1 : Int) := by rw [IntKind.wrap_u64]; omega
  have d1 : (x1 : Int) / 4 = ((x1 / 4 : Nat) : Int) := by omega
  obtain ⟨p2, hp2⟩ : ∃ p, x1 / 4 &&& 3689348814741910323 = p := ⟨_, rfl⟩
  obtain ⟨q2, hq2⟩ : ∃ q, x1 &&& 3689348814741910323 = q := ⟨_, rfl⟩
  have e3 : bits .and .u64 ((x1 : Int) / 4) 3689348814741910323 = (p2 : Int) := by rw [← hp2, d1]; exact bits_and_u64_nat _ _ (by omega) (by decide)
  have e4 : bits .and .u64 (x1 : Int) 3689348814741910323 = (q2 : Int) := by rw [← hq2]; exact bits_and_u64_nat _ _ (by omega) (by decide)
  have lp2 : p2 ≤ 3689348814741910323 := by rw [← hp2]; exact Nat.and_le_right
  have lq2 : q2 ≤ 3689348814741910323 := by rw [← hq2]; exact Nat.and_le_right
  obtain ⟨x2, h2⟩ : ∃ x2, x2 = p2 + q2 := ⟨_, rfl⟩
  have w2 : IntKind.u64.wrap ((p2 : Int) + q2) = (x2 : Int) := by rw [IntKind.wrap_u64]; omega
  obtain ⟨s2, g2⟩ : ∃ s2, s2 = x2 / 16 + x2 := ⟨_, rfl⟩
  have w3 : IntKind.u64.wrap ((x2 : Int) / 16 + x2) = (s2 : Int) := by rw [IntKind.wrap_u64]; omega
  obtain ⟨x3, h3⟩ : ∃ x3, s2 &&& 1085102592571150095 = x3 := ⟨_, rfl⟩
  have e5 : bits .and .u64 (s2 : Int) 1085102592571150095 = (x3 : Int) := by rw [← h3]; exact bits_and_u64_nat _ _ (by omega) (by decide)
  obtain ⟨x4, h4⟩ : ∃ x4, x4 = (x3 + x3 / 256) % 18446744073709551616 := ⟨_, rfl⟩
  have w4 : IntKind.u64.wrap ((x3 : Int) + (x3 : Int) / 256) = (x4 : Int) := by rw [IntKind.wrap_u64]; omega
  obtain ⟨x5, h5⟩ : ∃ x5, x5 = (x4 + x4 / 65536) % 18446744073709551616 := ⟨_, rfl⟩
  have w5 : IntKind.u64.wrap ((x4 : Int) + (x4 : Int) / 65536) = (x5 : Int) := by rw [IntKind.wrap_u64]; omega
  obtain ⟨x6, h6⟩ : ∃ x6, x6 = (x5 + x5 / 4294967296) % 18446744073709551616 := ⟨_, rfl⟩
  have w6 : IntKind.u64.wrap ((x5 : Int) + (x5 : Int) / 4294967296) = (x6 : Int) := by rw [IntKind.wrap_u64]; omega
  have hs := swar x x1 x2 x3 x4 x5 x6 hx (by rw [hp, hq]; exact h1) (by rw [hp2, hq2]; exact h2) (by rw [← g2]; exact h3.symm) h4 h5 h6
  have w7 : bits .and .i64 (wrap64 (x6 : Int)) 127 = ((pc 64 x : Nat) : Int) := by rw [and127w, hs]
  obtain ⟨r, hr⟩ : ∃ r, pc 64 x = r := ⟨_, rfl⟩
  rw [hr] at w7 ⊢
  clear hd d1 hs hr h1 h2 h3 h4 h5 h6 g2 hp hq hp2 hq2 lp lq lp2 lq2
  go_enter Tryd.func48, Tryd.ntmps48
  go_wp2_with fail
  go_ret
  exact ⟨rfl, rfl⟩

theorem pop8_pc : ∀ n : Fin 256, Lib.pop8 (n.val : Int) = ((pc 8 n.val : Nat) : Int) := by decide +kernel
theorem pop8_pc' (b : Nat) (h : b ≤ 255) : Lib.pop8 (b : Int) = ((pc 8 b : Nat) : Int) := pop8_pc ⟨b, by omega⟩
theorem and255 (y : Nat) (hy : y < 4294967296) : bits .and .u32 (y : Int) 255 = ((y % 256 : Nat) : Int) := by
  have h := (bits_nat .u32 32 (by decide) wraps_u32 y 255 (by omega) (by decide)).1
  rw [Nat.and_two_pow_sub_one_eq_mod y 8] at h
  exact h
theorem pc32 (x : Nat) (hx : x < 4294967296) : pc 32 x = pc 8 (x / 16777216) + pc 8 (x / 65536 % 256) + pc 8 (x / 256 % 256) + pc 8 (x % 256) := by
  rw [show (32 : Nat) = 8 + (8 + (8 + 8)) from rfl, pc_add 8, pc_add 8, pc_add 8, pc_mod 8 8 (x / 65536) (by decide), pc_mod 8 8 (x / 256) (by decide), pc_mod 8 8 x (by decide)]
  rw [show x / 2 ^ 8 = x / 256 from rfl, show x / 256 / 2 ^ 8 = x / 65536 by omega, show x / 65536 / 2 ^ 8 = x / 16777216 by omega]
  omega

set_option maxRecDepth 100000 in
set_option maxHeartbeats 1000000 in
theorem ones32_core (x b1 b2 b3 b4 : Nat) (w : World) (h1 : (x : Int) / 16777216 = (b1 : Int)) (i1 : b1 ≤ 255) (h2 : bits .and .u32 ((x : Int) / 65536) 255 = (b2 : Int)) (i2 : b2 ≤ 255)
    (h3 : bits .and .u32 ((x : Int) / 256) 255 = (b3 : Int)) (i3 : b3 ≤ 255) (h4 : bits .and .u32 (x : Int) 255 = (b4 : Int)) (i4 : b4 ≤ 255) :
    Calls Tryd.prog 42 #[.int .u32 x] w fun e w' => e = .returned (.int .i64 ((Lib.pop8 (b1 : Int) + Lib.pop8 (b2 : Int) + Lib.pop8 (b3 : Int) + Lib.pop8 (b4 : Int)) % 256)) ∧ ∃ n, w' = w.drewN n := by
  have hf := fold_pop
  have hfi : ∀ (w : World) (i : Int), 0 ≤ i → i ≤ 255 → (Instr.index 9 (.string Lib.pop8tab) (.int .u32 i)).run Tryd.prog w = .ok (.int .u8 (Lib.pop8 i)) w := fun w i a b => Lib.run_index_pop8tab w _ _ i Tryd.underlying9 a b
  have f1 : ∀ w : World, (Instr.index 9 (.string Lib.pop8tab) (.int .u32 (b1 : Int))).run Tryd.prog w = .ok (.int .u8 (Lib.pop8 (b1 : Int))) w := fun w => hfi w _ (by omega) (by omega)
  have f2 : ∀ w : World, (Instr.index 9 (.string Lib.pop8tab) (.int .u32 (b2 : Int))).run Tryd.prog w = .ok (.int .u8 (Lib.pop8 (b2 : Int))) w := fun w => hfi w _ (by omega) (by omega)
  have f3 : ∀ w : World, (Instr.index 9 (.string Lib.pop8tab) (.int .u32 (b3 : Int))).run Tryd.prog w = .ok (.int .u8 (Lib.pop8 (b3 : Int))) w := fun w => hfi w _ (by omega) (by omega)
  have f4 : ∀ w : World, (Instr.index 9 (.string Lib.pop8tab) (.int .u32 (b4 : Int))).run Tryd.prog w = .ok (.int .u8 (Lib.pop8 (b4 : Int))) w := fun w => hfi w _ (by omega) (by omega)
  clear hfi
  go_enter Tryd.func42, Tryd.ntmps42
  go_wp2_with fail
  go_quiet (fail)
  go_wp2_with fail
  go_ret
  exact ⟨rfl, nq, rfl⟩
theorem ones32_any' (x : Nat) (w : World) (hx : x < 4294967296) :
    Calls Tryd.prog 42 #[.int .u32 x] w fun e w' => e = .returned (.int .i64 ((pc 32 x : Nat) : Int)) ∧ ∃ n, w' = w.drewN n := by
  refine (ones32_core x (x / 16777216) (x / 65536 % 256) (x / 256 % 256) (x % 256) w (by omega) (by omega) ?_ (by omega) ?_ (by omega) (and255 x hx) (by omega)).mono ?_
  · rw [show (x : Int) / 65536 = ((x / 65536 : Nat) : Int) by omega]
    exact and255 _ (by omega)
  · rw [show (x : Int) / 256 = ((x / 256 : Nat) : Int) by omega]
    exact and255 _ (by omega)
  · rintro e w' ⟨rfl, hn⟩
    refine ⟨?_, hn⟩
    rw [pop8_pc' _ (by omega), pop8_pc' _ (by omega), pop8_pc' _ (by omega), pop8_pc' _ (by omega), pc32 x hx]
    have l1 := pc_le 8 (x / 16777216)
    have l2 := pc_le 8 (x / 65536 % 256)
    have l3 := pc_le 8 (x / 256 % 256)
    have l4 := pc_le 8 (x % 256)
    generalize pc 8 (x / 16777216) = c1 at *
    generalize pc 8 (x / 65536 % 256) = c2 at *
    generalize pc 8 (x / 256 % 256) = c3 at *
    generalize pc 8 (x % 256) = c4 at *
    rw [show ((c1 : Int) + c2 + c3 + c4) % 256 = ((c1 + c2 + c3 + c4 : Nat) : Int) by omega]
end Go.Proofs.YtebikmnegemggaaDoor.Num
