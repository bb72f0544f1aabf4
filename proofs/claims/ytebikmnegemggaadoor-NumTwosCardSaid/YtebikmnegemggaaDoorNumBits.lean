/-
  The walk of NumBits: it answers true. No condition beyond what the theorem names.
-/
import Derived.Test.YtebikmnegemggaaDoorNumOneV
import Derived.Test.YtebikmnegemggaaDoorNumOneL
import Derived.Test.YtebikmnegemggaaDoorNumEx
import Derived.Lib.ItoaNum
namespace Go.Proofs.YtebikmnegemggaaDoor.Num
open Go.RowKit
set_option linter.unusedVariables false

theorem pc_zero (k : Nat) : pc k 0 = 0 := by
  induction k with
  | zero => rfl
  | succ k ih => simp only [pc, Nat.zero_mod, Nat.zero_div, ih]
theorem pc_small (k j x : Nat) (h : x < 2 ^ j) (hj : j ≤ k) : pc k x ≤ j := by
  have e : k = j + (k - j) := by omega
  rw [e, pc_add, Nat.div_eq_of_lt h, pc_zero]
  exact pc_le j x
theorem pc_not (k x : Nat) (h : x < 2 ^ k) : pc k x + pc k (2 ^ k - 1 - x) = k := by
  induction k generalizing x with
  | zero => rfl
  | succ k ih =>
    rw [Nat.pow_succ] at h ⊢
    have h2 := ih (x / 2) (by omega)
    have e1 : (2 ^ k * 2 - 1 - x) % 2 = 1 - x % 2 := by omega
    have e2 : (2 ^ k * 2 - 1 - x) / 2 = 2 ^ k - 1 - x / 2 := by omega
    simp only [pc, e1, e2]
    omega
theorem bits_fit (a : Nat) (h0 : a ≠ 0) (h : a < 18446744073709551616) : Lib.ctz 64 a < Lib.bitLen a ∧ Lib.bitLen a ≤ 64 ∧ 1 ≤ pc 64 a ∧ pc 64 a ≤ Lib.bitLen a - Lib.ctz 64 a := by
  obtain ⟨b1, b2, b3⟩ := Lib.bitLenAux_bounds 64 a h h0
  have b4 := bl64 a h
  obtain ⟨m, hm, ht⟩ := Lib.ctzFrom_spec 64 a (by omega) h
  have e : Lib.ctz 64 a = Lib.ctzFrom 64 a := by unfold Lib.ctz; rw [if_neg h0]
  have eb : Lib.bitLen a = Lib.bitLenAux 64 a := rfl
  rw [e]
  rw [eb] at b4 ⊢
  generalize Lib.ctzFrom 64 a = t at *
  generalize Lib.bitLenAux 64 a = L at *
  have hle : 2 ^ t ≤ a := by rw [hm]; exact Nat.le_mul_of_pos_right _ (by omega)
  have hlt : t < L := by
    apply Nat.lt_of_not_le
    intro hle2
    have := Nat.pow_le_pow_right (show 0 < 2 by decide) hle2
    omega
  have hp := pc_add t (64 - t) a
  rw [show t + (64 - t) = 64 by omega] at hp
  have hd : a / 2 ^ t = 2 * m + 1 := by rw [hm]; exact Nat.mul_div_cancel_left _ (Nat.two_pow_pos t)
  have hz : pc t a = 0 := by
    rw [← pc_mod t t a (Nat.le_refl _), hm, Nat.mul_mod_right, pc_zero]
  have hs : 2 * m + 1 < 2 ^ (L - t) := by
    rw [← hd]
    apply Nat.div_lt_of_lt_mul
    rw [← Nat.pow_add, show t + (L - t) = L by omega]
    exact b3
  rw [hd, hz] at hp
  have hu := pc_small (64 - t) (L - t) (2 * m + 1) hs (by omega)
  have hl : 1 ≤ pc (64 - t) (2 * m + 1) := by
    rw [show 64 - t = (63 - t) + 1 by omega]
    simp only [pc]
    omega
  omega

theorem xor_ones (k a : Nat) (h : a < 2 ^ k) : (2 ^ k - 1) ^^^ a = 2 ^ k - 1 - a := by
  induction k generalizing a with
  | zero => obtain rfl : a = 0 := by omega
            rfl
  | succ k ih =>
    rw [Nat.pow_succ] at h ⊢
    have h2 := ih (a / 2) (by omega)
    have e1 : ((2 ^ k * 2 - 1) ^^^ a) / 2 = (2 ^ k * 2 - 1) / 2 ^^^ a / 2 := by have := Nat.shiftRight_xor_distrib (a := 2 ^ k * 2 - 1) (b := a) (i := 1); simpa [Nat.shiftRight_eq_div_pow] using this
    have e2 : ((2 ^ k * 2 - 1) ^^^ a) % 2 = (2 ^ k * 2 - 1) % 2 ^^^ a % 2 := by
      have := Nat.xor_mod_two_pow (a := 2 ^ k * 2 - 1) (b := a) (n := 1); simpa using this
    have e3 : (2 ^ k * 2 - 1) / 2 = 2 ^ k - 1 := by have := Nat.two_pow_pos k; omega
    have e4 : (2 ^ k * 2 - 1) % 2 = 1 := by have := Nat.two_pow_pos k; omega
    rw [e3, h2] at e1
    rw [e4] at e2
    have e5 : 1 ^^^ a % 2 = 1 - a % 2 := by rcases (show a % 2 = 0 ∨ a % 2 = 1 by omega) with h | h <;> rw [h] <;> rfl
    omega
theorem not64 (a : Nat) (ha : a < 18446744073709551616) : bits .xor .u64 IntKind.u64.max (a : Int) = ((18446744073709551615 - a : Nat) : Int) := by
  have h := bits_xor_u64_nat 18446744073709551615 a (by decide) ha
  rw [xor_ones 64 a ha] at h
  exact h

set_option maxRecDepth 100000 in
set_option maxHeartbeats 1000000 in
theorem bits_nz (a c n l t o r : Nat) (w : World) (hc : (a : Int) % 4294967296 = (c : Int)) (hx : bits .xor .u64 IntKind.u64.max (a : Int) = (n : Int)) (hT : Hid (Tabs w)) (ha : Hid (a < 18446744073709551616)) (hn : Hid (n < 18446744073709551616)) (hq : ((a : Int) == 0) = false) (hq2 : ((a : Int) != 0) = true) (f1 : l + t < 64) (f2 : 1 ≤ o) (f3 : o ≤ 64 - l - t) (hor : o + r = 64)
    (E0 : Hid (oneA 121 a = (l : Int))) (E1 : Hid (oneA 122 a = (t : Int))) (E2 : Hid (oneA 123 a = (o : Int))) (E3 : Hid (oneA 123 n = (r : Int))) (E4 : Hid (oneA 167 a = (c : Int))) (E5 : Hid (oneA 172 a = IntKind.u64.wrap (wrap32 (c : Int)))) (E6 : Hid (oneA 173 a = (c : Int))) (E7 : Hid (oneA 80 a = 0)) :
    Calls Tryd.prog 8 #[.int .u64 a] w fun e w' => e = .returned (.bool true) ∧ Below w.heap.size w w' := by
  have HO := Lib.hid hor
  have hw : IntKind.u64.wrap ((o : Int) + r) = 64 := by rw [IntKind.wrap_u64]; omega
  have hs : wrap64 (IntKind.u64.wrap (wrap32 (c : Int))) = wrap32 (c : Int) := wr3 _ (w32b _).1 (w32b _).2
  have hs2 : wrap64 (wrap32 (c : Int)) = wrap32 (c : Int) := wr2 _ (w32b _).1 (w32b _).2
  clear hor
  go_enter Tryd.func8, Tryd.ntmps8
  go_wp2_with fail
  refine (examples_any _).mono ?_
  rintro e w0 ⟨rfl, b0⟩
  go_wp2_with fail
  refine (one_121 a _ ha.out (tabs_later hT.out b0)).mono ?_
  rintro e w1 ⟨rfl, c1⟩
  have b1 := b0.trans (c1.mono b0.size)
  rw [E0.out]
  go_wp2_with fail
  refine (one_122 a _ ha.out (tabs_later hT.out b1)).mono ?_
  rintro e w2 ⟨rfl, c2⟩
  have b2 := b1.trans (c2.mono b1.size)
  rw [E1.out]
  go_wp2_with fail
  refine (one_123 a _ ha.out (tabs_later hT.out b2)).mono ?_
  rintro e w3 ⟨rfl, c3⟩
  have b3 := b2.trans (c3.mono b2.size)
  rw [E2.out]
  go_wp2_with fail
  refine (one_123 n _ hn.out (tabs_later hT.out b3)).mono ?_
  rintro e w4 ⟨rfl, c4⟩
  have b4 := b3.trans (c4.mono b3.size)
  rw [E3.out]
  go_wp2_with fail
  refine (one_167 a _ ha.out (tabs_later hT.out b4)).mono ?_
  rintro e w5 ⟨rfl, c5⟩
  have b5 := b4.trans (c5.mono b4.size)
  rw [E4.out]
  go_wp2_with fail
  refine (one_172 a _ ha.out (tabs_later hT.out b5)).mono ?_
  rintro e w6 ⟨rfl, c6⟩
  have b6 := b5.trans (c6.mono b5.size)
  rw [E5.out]
  go_wp2_with fail
  refine (one_173 a _ ha.out (tabs_later hT.out b6)).mono ?_
  rintro e w7 ⟨rfl, c7⟩
  have b7 := b6.trans (c7.mono b6.size)
  rw [E6.out]
  go_wp2_with fail
  refine (one_80 a _ ha.out (tabs_later hT.out b7)).mono ?_
  rintro e w8 ⟨rfl, c8⟩
  have b8 := b7.trans (c8.mono b7.size)
  rw [E7.out]
  go_wp2_with fail
  go_ret
  exact ⟨rfl, b8⟩

set_option maxRecDepth 100000 in
set_option maxHeartbeats 1000000 in
theorem bits_0 (w : World) (hT : Hid (Tabs w)) :
    Calls Tryd.prog 8 #[.int .u64 0] w fun e w' => e = .returned (.bool true) ∧ Below w.heap.size w w' := by
  have hx : bits .xor .u64 IntKind.u64.max 0 = 18446744073709551615 := not64 0 (by decide)
  have E0 := Lib.hid (show oneA 121 0 = 64 by rw [oneA_121]; rfl)
  have E1 := Lib.hid (show oneA 122 0 = 64 by rw [oneA_122]; rfl)
  have E2 := Lib.hid (show oneA 123 0 = 0 by rw [oneA_123, pc_zero]; rfl)
  have E3 := Lib.hid (show oneA 123 18446744073709551615 = 64 by rw [oneA_123]; have h := pc_not 64 0 (by decide); rw [pc_zero, Nat.zero_add] at h; exact congrArg Int.ofNat h)
  have E4 := Lib.hid (show oneA 167 0 = 0 by rw [oneA_167]; rfl)
  have E5 := Lib.hid (show oneA 172 0 = 0 by rw [oneA_172]; rw [IntKind.wrap_u64]; unfold wrap32; omega)
  have E6 := Lib.hid (show oneA 173 0 = 0 by rw [oneA_173]; rfl)
  have E7 := Lib.hid (show oneA 80 0 = 1 by rw [oneA_80]; rfl)
  go_enter Tryd.func8, Tryd.ntmps8
  go_wp2_with fail
  refine (examples_any _).mono ?_
  rintro e w0 ⟨rfl, b0⟩
  go_wp2_with fail
  refine (one_121 0 _ (by decide) (tabs_later hT.out b0)).mono ?_
  rintro e w1 ⟨rfl, c1⟩
  have b1 := b0.trans (c1.mono b0.size)
  rw [E0.out]
  go_wp2_with fail
  refine (one_122 0 _ (by decide) (tabs_later hT.out b1)).mono ?_
  rintro e w2 ⟨rfl, c2⟩
  have b2 := b1.trans (c2.mono b1.size)
  rw [E1.out]
  go_wp2_with fail
  refine (one_123 0 _ (by decide) (tabs_later hT.out b2)).mono ?_
  rintro e w3 ⟨rfl, c3⟩
  have b3 := b2.trans (c3.mono b2.size)
  rw [E2.out]
  go_wp2_with fail
  refine (one_123 18446744073709551615 _ (by decide) (tabs_later hT.out b3)).mono ?_
  rintro e w4 ⟨rfl, c4⟩
  have b4 := b3.trans (c4.mono b3.size)
  rw [E3.out]
  go_wp2_with fail
  refine (one_167 0 _ (by decide) (tabs_later hT.out b4)).mono ?_
  rintro e w5 ⟨rfl, c5⟩
  have b5 := b4.trans (c5.mono b4.size)
  rw [E4.out]
  go_wp2_with fail
  refine (one_172 0 _ (by decide) (tabs_later hT.out b5)).mono ?_
  rintro e w6 ⟨rfl, c6⟩
  have b6 := b5.trans (c6.mono b5.size)
  rw [E5.out]
  go_wp2_with fail
  refine (one_173 0 _ (by decide) (tabs_later hT.out b6)).mono ?_
  rintro e w7 ⟨rfl, c7⟩
  have b7 := b6.trans (c7.mono b6.size)
  rw [E6.out]
  go_wp2_with fail
  refine (one_80 0 _ (by decide) (tabs_later hT.out b7)).mono ?_
  rintro e w8 ⟨rfl, c8⟩
  have b8 := b7.trans (c8.mono b7.size)
  rw [E7.out]
  go_wp2_with fail
  go_ret
  exact ⟨rfl, b8⟩

theorem bits_walk (a : Nat) (w : World) (ha : a < 18446744073709551616) (hT : Tabs w) :
    Calls Tryd.prog 8 #[.int .u64 a] w fun e w' => e = .returned (.bool true) ∧ Below w.heap.size w w' := by
  have hor := pc_not 64 a ha
  rw [show 2 ^ 64 - 1 - a = 18446744073709551615 - a from rfl] at hor
  have hx := not64 a ha
  have hwr : IntKind.u64.wrap (wrap32 (((a % 4294967296 : Nat) : Int))) = IntKind.u64.wrap (wrap32 (((a % 4294967296 : Nat) : Int))) := rfl
  by_cases h0 : a = 0
  · subst h0
    exact bits_0 w (Lib.hid hT)
  · obtain ⟨g1, g2, g3, g4⟩ := bits_fit a h0 ha
    have hq : ((a : Int) == 0) = false := beq_eq_false_iff_ne.2 (by omega)
    refine bits_nz a (a % 4294967296) (18446744073709551615 - a) (64 - Lib.bitLen a) (Lib.ctz 64 a) (pc 64 a) (pc 64 (18446744073709551615 - a)) w (by omega) hx (Lib.hid hT) (Lib.hid ha) (Lib.hid (by omega)) hq (by simp [h0]) (by omega) g3 (by omega) hor (Lib.hid (oneA_121 a)) (Lib.hid (oneA_122 a)) (Lib.hid (oneA_123 a)) (Lib.hid (oneA_123 _)) (Lib.hid (oneA_167 a)) (Lib.hid (oneA_172 a)) (Lib.hid (oneA_173 a)) (Lib.hid (by rw [oneA_80, hq]; rfl))
end Go.Proofs.YtebikmnegemggaaDoor.Num
