/-
  The walk of NumTurns: it answers true. No condition beyond what the theorem names.
-/
import Derived.Test.YtebikmnegemggaaDoorNumVals
namespace Go.Proofs.YtebikmnegemggaaDoor.Num
open Go.RowKit
set_option linter.unusedVariables false

theorem shl_mod (W a s : Nat) (hs : s ≤ W) : a * 2 ^ s % 2 ^ W = (a % 2 ^ (W - s)) * 2 ^ s := by
  have e : 2 ^ W = 2 ^ (W - s) * 2 ^ s := by rw [← Nat.pow_add, Nat.sub_add_cancel hs]
  rw [e, Nat.mul_mod_mul_right]
theorem rotl_add (W a s : Nat) (ha : a < 2 ^ W) (hs : s ≤ W) : rotl W a s = (a % 2 ^ (W - s)) * 2 ^ s + a / 2 ^ (W - s) := by
  have e : 2 ^ W = 2 ^ (W - s) * 2 ^ s := by rw [← Nat.pow_add, Nat.sub_add_cancel hs]
  have hlt : a / 2 ^ (W - s) < 2 ^ s := by
    apply Nat.div_lt_of_lt_mul
    rw [← e]
    exact ha
  unfold rotl
  rw [shl_mod W a s hs, Nat.mul_comm]
  exact (Nat.two_pow_add_eq_or_of_lt hlt _).symm
theorem rotl_back (W a s : Nat) (ha : a < 2 ^ W) (hs : s < W) : rotl W (rotl W a s) ((W - s) % W) = a := by
  have hW : 0 < W := by omega
  by_cases h0 : s = 0
  · subst h0
    have e : rotl W a 0 = a := by
      rw [rotl_add W a 0 ha (by omega), Nat.sub_zero, Nat.pow_zero, Nat.mul_one, Nat.mod_eq_of_lt ha, Nat.div_eq_of_lt ha, Nat.add_zero]
    rw [Nat.sub_zero, Nat.mod_self, e, e]
  · have e : 2 ^ W = 2 ^ (W - s) * 2 ^ s := by rw [← Nat.pow_add, Nat.sub_add_cancel (Nat.le_of_lt hs)]
    have hlt : a / 2 ^ (W - s) < 2 ^ s := by
      apply Nat.div_lt_of_lt_mul
      rw [← e]
      exact ha
    have hlo : a % 2 ^ (W - s) < 2 ^ (W - s) := Nat.mod_lt _ (Nat.two_pow_pos _)
    have hda := Nat.div_add_mod a (2 ^ (W - s))
    rw [rotl_add W a s ha (by omega), Nat.mod_eq_of_lt (show W - s < W by omega)]
    generalize a / 2 ^ (W - s) = hi at *
    generalize a % 2 ^ (W - s) = lo at *
    have h1 : lo * 2 ^ s + hi < 2 ^ W := by
      have : (lo + 1) * 2 ^ s ≤ 2 ^ (W - s) * 2 ^ s := Nat.mul_le_mul_right _ hlo
      rw [← e, Nat.add_mul] at this
      omega
    rw [rotl_add W _ (W - s) h1 (by omega), show W - (W - s) = s by omega]
    have h2 : (lo * 2 ^ s + hi) % 2 ^ s = hi := by
      rw [Nat.add_comm, Nat.add_mul_mod_self_right, Nat.mod_eq_of_lt hlt]
    have h3 : (lo * 2 ^ s + hi) / 2 ^ s = lo := by
      rw [Nat.add_comm, Nat.add_mul_div_right _ _ (Nat.two_pow_pos s), Nat.div_eq_of_lt hlt, Nat.zero_add]
    rw [h2, h3, Nat.mul_comm]
    exact hda
theorem rotl64_lt (a s : Nat) (ha : a < 18446744073709551616) : rotl 64 a s < 18446744073709551616 := by
  have h1 : a * 2 ^ s % 2 ^ 64 < 2 ^ 64 := Nat.mod_lt _ (by decide)
  have h2 := Nat.div_le_self a (2 ^ (64 - s))
  exact Nat.or_lt_two_pow (n := 64) h1 (by omega)
/-- turned left, as Go's text reckons it, k no 0 -/
theorem turn_pos (a k : Nat) (ha : a < 18446744073709551616) (h0 : 0 < k) (hk : k < 64) : bits .or .u64 (IntKind.u64.wrap ((a : Int) * 2 ^ k)) (IntKind.u64.wrap ((a : Int) / 2 ^ (-(k : Int) % 64).toNat)) = ((rotl 64 a k : Nat) : Int) := by
  have e : (-(k : Int) % 64).toNat = 64 - k := by omega
  have e2 : (a : Int) / 2 ^ (64 - k) = ((a / 2 ^ (64 - k) : Nat) : Int) := by rw [pow2c, Int.natCast_ediv]
  have e3 : IntKind.u64.wrap ((a : Int) / 2 ^ (64 - k)) = (a : Int) / 2 ^ (64 - k) := by
    have := Nat.div_le_self a (2 ^ (64 - k))
    rw [e2, IntKind.wrap_u64]
    generalize a / 2 ^ (64 - k) = q at *
    omega
  rw [e, e3, rot_or64 a k (by omega)]
theorem turn_one (a : Nat) (ha : a < 18446744073709551616) (k : Nat) (hk : k ≤ 1) : bits .or .u64 (IntKind.u64.wrap ((a : Int) * 2 ^ k)) (IntKind.u64.wrap ((a : Int) / 2 ^ (-(k : Int) % 64).toNat * (k : Int))) = ((rotl 64 a k : Nat) : Int) := by
  rcases (show k = 0 ∨ k = 1 by omega) with rfl | rfl
  · have e : IntKind.u64.wrap ((a : Int) * 2 ^ 0) = ((a : Nat) : Int) := by rw [IntKind.wrap_u64, Int.pow_zero, Int.mul_one]; omega
    have e2 : IntKind.u64.wrap ((a : Int) / 2 ^ (-((0 : Nat) : Int) % 64).toNat * ((0 : Nat) : Int)) = ((0 : Nat) : Int) := by
      rw [IntKind.wrap_u64, show ((0 : Nat) : Int) = 0 from rfl, Int.mul_zero]; rfl
    rw [e, e2, bits_or_u64_nat a 0 ha (by decide), rotl_add 64 a 0 (by omega) (by decide), Nat.or_zero, Nat.sub_zero, Nat.pow_zero, Nat.mul_one, Nat.mod_eq_of_lt (show a < 2 ^ 64 by omega), Nat.div_eq_of_lt (show a < 2 ^ 64 by omega), Nat.add_zero]
  · rw [show ((1 : Nat) : Int) = 1 from rfl, Int.mul_one]
    exact turn_pos a 1 ha (by decide) (by decide)

def TurnsTrue (w : World) (e : Ending) (w' : World) : Prop := e = .returned (.bool true) ∧ Below w.heap.size w w'
set_option maxRecDepth 100000 in
set_option maxHeartbeats 1000000 in
theorem turns_k (a n k l j L U R : Nat) (w : World) (ha : a < 18446744073709551616) (hn : n < 18446744073709551616) (hk : (n : Int) % 64 = (k : Int)) (hk3 : k < 64) (hl : (a : Int) % 4294967296 = (l : Int))
    (hj : (n : Int) % 32 = (j : Int)) (hj2 : j < 32) (HR : Hid (L = rotl 64 a k)) (HB : Hid (U < 18446744073709551616 ∧ L < 18446744073709551616 ∧ R < 18446744073709551616))
    (E1 : Hid ((twoA 134 a n).1 = (U : Int))) (E2 : Hid ((twoA 136 U n).1 = IntKind.u64.wrap ((a : Int) * 2 ^ k) / 2 ^ k)) (E3 : Hid ((twoA 137 a n).1 = (L : Int))) (E4 : Hid ((twoA 138 L n).1 = (a : Int)))
    (E5 : Hid ((twoA 119 l n).1 = (R : Int))) (E6 : Hid ((twoA 120 R n).1 = (l : Int))) (E7 : Hid ((twoA 116 l n).1 = (l : Int) * 2 ^ j % 4294967296)) :
    Calls Tryd.prog 6 #[.int .u64 a, .int .u64 n] w (TurnsTrue w) := by
  have HA := Lib.hid ha
  have HN := Lib.hid hn
  have HL := Lib.hid (show l < 4294967296 by omega)
  clear ha hn
  go_enter Tryd.func6, Tryd.ntmps6
  go_wp2_with fail
  refine (examples_any _).mono ?_
  rintro e w0 ⟨rfl, b0⟩
  go_wp2_with fail
  refine (law_two 134 a n _ HA.out HN.out (by decide)).mono ?_
  rintro e w1 ⟨rfl, c1⟩
  have b1 := b0.trans (c1.mono b0.size)
  rw [E1.out]
  go_wp2_with fail
  refine (law_two 136 U n _ HB.out.1 HN.out (by decide)).mono ?_
  rintro e w2 ⟨rfl, c2⟩
  have b2 := b1.trans (c2.mono b1.size)
  rw [E2.out]
  go_wp2_with fail
  refine (law_two 137 a n _ HA.out HN.out (by decide)).mono ?_
  rintro e w3 ⟨rfl, c3⟩
  have b3 := b2.trans (c3.mono b2.size)
  rw [E3.out]
  go_wp2_with fail
  refine (law_two 138 L n _ HB.out.2.1 HN.out (by decide)).mono ?_
  rintro e w4 ⟨rfl, c4⟩
  have b4 := b3.trans (c4.mono b3.size)
  rw [E4.out]
  go_wp2_with fail
  refine (law_two 119 l n _ (by have := HL.out; omega) HN.out (by decide)).mono ?_
  rintro e w5 ⟨rfl, c5⟩
  have b5 := b4.trans (c5.mono b4.size)
  rw [E5.out]
  go_wp2_with fail
  refine (law_two 120 R n _ HB.out.2.2 HN.out (by decide)).mono ?_
  rintro e w6 ⟨rfl, c6⟩
  have b6 := b5.trans (c6.mono b5.size)
  rw [E6.out]
  go_wp2_with fail
  refine (law_two 116 l n _ (by have := HL.out; omega) HN.out (by decide)).mono ?_
  rintro e w7 ⟨rfl, c7⟩
  have b7 := b6.trans (c7.mono b6.size)
  rw [E7.out]
  go_wp2_with fail
  all_goals go_ret
  · refine ⟨?_, b7⟩
    have h1 := turn_pos a k HA.out (by omega) hk3
    have h2 := HR.out
    simp [h1, h2]
  · refine ⟨?_, b7⟩
    have h1 := turn_one a HA.out k (by omega)
    have h2 := HR.out
    simp [h1, h2]
theorem two_low (k : Nat) (hk : k < 15) (op : Int) (h : op = 106 + (k : Int)) (a n : Nat) : twoA op a n = twoA op a (n % 4294967296) := by
  rw [twoA_r32 k a n hk op h, twoA_r32 k a (n % 4294967296) hk op h, Nat.mod_mod]
theorem turns_walk (a n : Nat) (w : World) (ha : a < 18446744073709551616) (hn : n < 18446744073709551616) :
    Calls Tryd.prog 6 #[.int .u64 a, .int .u64 n] w fun e w' => e = .returned (.bool true) ∧ Below w.heap.size w w' := by
  have hl : a % 4294967296 < 4294967296 := by omega
  have hR := rotl32_lt (a % 4294967296) (n % 32) hl
  have hL := rotl64_lt a (n % 64) ha
  have hU : a * 2 ^ (n % 64) % 18446744073709551616 < 18446744073709551616 := Nat.mod_lt _ (by decide)
  refine turns_k a n (n % 64) (a % 4294967296) (n % 32) (rotl 64 a (n % 64)) (a * 2 ^ (n % 64) % 18446744073709551616) (rotl 32 (a % 4294967296) (n % 32)) w ha hn (by omega) (by omega) (by omega) (by omega) (by omega) (Lib.hid rfl) (Lib.hid ⟨hU, hL, by omega⟩) (Lib.hid (v64_shl a n ha hn)) ?_ (Lib.hid (v64_rotl a n ha hn)) ?_ ?_ ?_ ?_
  · have h := v64_shru (a * 2 ^ (n % 64) % 18446744073709551616) n hU hn
    have e : IntKind.u64.wrap ((a : Int) * 2 ^ (n % 64)) = ((a * 2 ^ (n % 64) % 18446744073709551616 : Nat) : Int) := by
      rw [IntKind.wrap_u64, pow2c, ← Int.natCast_mul]
      rfl
    exact Lib.hid (by rw [h, e, pow2c, Int.natCast_ediv])
  · have h := v64_rotr (rotl 64 a (n % 64)) n hL hn
    exact Lib.hid (by rw [h, rotl_back 64 a (n % 64) (by omega) (by omega)])
  · have h : (twoA 119 (a % 4294967296) n).1 = (twoA 119 (a % 4294967296) (n % 4294967296)).1 := by rw [two_low 13 (by decide) 119 (by decide)]
    have h2 := v32_rotl (a % 4294967296) (n % 4294967296) hl (by omega)
    exact Lib.hid (by rw [h, h2, show n % 4294967296 % 32 = n % 32 by omega])
  · have h : (twoA 120 (rotl 32 (a % 4294967296) (n % 32)) n).1 = (twoA 120 (rotl 32 (a % 4294967296) (n % 32)) (n % 4294967296)).1 := by rw [two_low 14 (by decide) 120 (by decide)]
    have h2 := v32_rotr (rotl 32 (a % 4294967296) (n % 32)) (n % 4294967296) hR (by omega)
    exact Lib.hid (by rw [h, h2, show n % 4294967296 % 32 = n % 32 by omega, rotl_back 32 (a % 4294967296) (n % 32) (by omega) (by omega)])
  · have h : (twoA 116 (a % 4294967296) n).1 = (twoA 116 (a % 4294967296) (n % 4294967296)).1 := by rw [two_low 10 (by decide) 116 (by decide)]
    have h2 := v32_shl (a % 4294967296) (n % 4294967296) hl (by omega)
    exact Lib.hid (by rw [h, h2, show n % 4294967296 % 32 = n % 32 by omega, pow2c, ← Int.natCast_mul]; rfl)
end Go.Proofs.YtebikmnegemggaaDoor.Num
