/-
  What the reference's moved of chapter 2 answers. No condition beyond what each theorem names.
-/
import Derived.Test.YtebikmnegemggaaDoorNumOnes
import Derived.Test.YtebikmnegemggaaDoorNumVals
import Derived.Test.YtebikmnegemggaaDoorNumTurns
namespace Go.Proofs.YtebikmnegemggaaDoor.Num
open Go.RowKit
set_option linter.unusedVariables false
/-- what was put together of the first k bits -/
def Acc (f : Nat → Bool) (k out : Nat) : Prop := out < 2 ^ k ∧ ∀ j, j < k → out.testBit j = f j
theorem acc_0 (f : Nat → Bool) : Acc f 0 0 := ⟨by decide, fun j h => by omega⟩
theorem acc_false {f : Nat → Bool} {k out : Nat} (h : Acc f k out) (hf : f k = false) : Acc f (k + 1) out := by
  refine ⟨Nat.lt_trans h.1 (Nat.pow_lt_pow_right (by decide) (by omega)), fun j hj => ?_⟩
  by_cases e : j = k
  · subst e
    rw [hf, Nat.testBit_lt_two_pow h.1]
  · exact h.2 j (by omega)
theorem acc_true {f : Nat → Bool} {k out : Nat} (h : Acc f k out) (hf : f k = true) : Acc f (k + 1) (out ||| 2 ^ k) := by
  refine ⟨Nat.or_lt_two_pow (Nat.lt_trans h.1 (Nat.pow_lt_pow_right (by decide) (by omega))) (Nat.pow_lt_pow_right (by decide) (by omega)), fun j hj => ?_⟩
  rw [Nat.testBit_or, Nat.testBit_two_pow]
  by_cases e : j = k
  · subst e
    simp [hf]
  · rw [h.2 j (by omega)]
    have : ¬ k = j := by omega
    simp [this]
theorem acc_end {f : Nat → Bool} {N out v : Nat} (h : Acc f N out) (hv : v < 2 ^ N) (hb : ∀ j, j < N → v.testBit j = f j) : out = v := by
  apply Nat.eq_of_testBit_eq
  intro j
  by_cases hj : j < N
  · rw [h.2 j hj, hb j hj]
  · have e : 2 ^ N ≤ 2 ^ j := Nat.pow_le_pow_right (by decide) (by omega)
    rw [Nat.testBit_lt_two_pow (Nat.lt_of_lt_of_le h.1 e), Nat.testBit_lt_two_pow (Nat.lt_of_lt_of_le hv e)]
theorem tb_1 {a i : Nat} (h : a / 2 ^ i % 2 = 1) : a.testBit i = true := by rw [Nat.testBit_eq_decide_div_mod_eq, h]; rfl
theorem tb_0 {a i : Nat} (h : a / 2 ^ i % 2 = 0) : a.testBit i = false := by rw [Nat.testBit_eq_decide_div_mod_eq, h]; rfl
/-- the bit that comes to place j -/
def src (kind N n a j : Nat) : Bool :=
  if kind = 0 then decide (n ≤ j) && a.testBit (j - n)
  else if kind = 1 then a.testBit (min (j + n) (N - 1))
  else if kind = 2 then decide (j + n < N) && a.testBit (j + n)
  else if kind = 3 then a.testBit ((j + N - n) % N)
  else a.testBit ((j + n + N) % N)
theorem or_K (out K k : Nat) (h : out < 2 ^ k) (hk : k < 64) (hK : K = 2 ^ k) : bits .or .u64 (out : Int) (K : Int) = ((out ||| 2 ^ k : Nat) : Int) := by
  subst hK
  have h1 : 2 ^ k < 2 ^ 64 := Nat.pow_lt_pow_right (by decide) hk
  exact bits_or_u64_nat out (2 ^ k) (by omega) (by omega)
theorem wrap_K (K k : Nat) (hk : k < 64) (hK : K = 2 ^ k) : IntKind.u64.wrap (2 ^ k) = (K : Int) := by
  have h1 : 2 ^ k < 2 ^ 64 := Nat.pow_lt_pow_right (by decide) hk
  rw [pow2c, ← hK, IntKind.wrap_u64]
  omega

set_option maxRecDepth 100000 in
set_option maxHeartbeats 2000000 in
theorem moved_0 (a b n N : Nat) (w : World) (hN : N ≤ 64) (hN0 : 0 < N) (hn : (b : Int) % (N : Int) = (n : Int)) (hnN : n < N) :
    Calls Tryd.prog 33 #[.int .i64 0, .int .u64 a, .int .u64 b, .int .i64 N] w fun e w' => (∃ out : Nat, Acc (src 0 N n a) N out ∧ e = .returned (.int .u64 (out : Int))) ∧ w = w' := by
  have hwN : IntKind.u64.wrap (N : Int) = (N : Int) := by rw [IntKind.wrap_u64]; omega
  have hzN : ¬ (N : Int) = 0 := by omega
  have hzN2 : ((N : Int) == 0) = false := beq_eq_false_iff_ne.2 hzN
  go_enter Tryd.func33, Tryd.ntmps33
  go_wp2_with fail
  clear hn
  go_loop [10, 11] (fun o i => ∃ k out : Nat, k ≤ N ∧ i = .int .i64 k ∧ o = .int .u64 out ∧ Acc (src 0 N n a) k out) (fun _ i => N - (intOf i).toNat)
  case atStart => exact ⟨0, 0, Nat.zero_le _, rfl, rfl, acc_0 _⟩
  case round =>
    obtain ⟨k, o, hk, rfl, rfl, hacc⟩ := hrel
    have HA := Lib.hid hacc
    clear hacc
    by_cases hlt : k < N
    · have HX2 := Lib.hid (show k < 64 by omega)
      by_cases hv : n ≤ k
      · obtain ⟨s, hs⟩ : ∃ s : Nat, (k : Int) - n = (s : Int) := ⟨k - n, by omega⟩
        have HS := Lib.hid (show k - n = s by omega)
        have HX := Lib.hid (show s < 64 by omega)
        have HV := Lib.hid hv
        have hsN : s < N := by omega
        rcases (show a / 2 ^ s % 2 = 0 ∨ a / 2 ^ s % 2 = 1 by omega) with hb | hb
        · have HB := Lib.hid hb
          clear hb
          go_wp2_with fail
          refine (rbit_0 a s _ HX.out HB.out).mono ?_
          rintro e w' ⟨rfl, rfl⟩
          go_wp2_with fail
          go_round
          case rel => first | exact ⟨k + 1, o, by omega, by go_num, rfl, acc_false HA.out (by unfold src; rw [if_pos rfl, HS.out, tb_0 HB.out]; simp [HV.out])⟩ | (refine ⟨trivial, ?_⟩; (repeat apply Exists.intro); exact ⟨⟨k + 1, o, by omega, by go_num, rfl, acc_false HA.out (by unfold src; rw [if_pos rfl, HS.out, tb_0 HB.out]; simp [HV.out])⟩, rfl⟩)
          case measure => simp [intOf]; omega
        · have HB := Lib.hid hb
          clear hb
          obtain ⟨K, hK⟩ : ∃ K : Nat, K = 2 ^ k := ⟨_, rfl⟩
          have hwk := wrap_K K k HX2.out hK
          have hor := or_K o K k HA.out.1 HX2.out hK
          obtain ⟨O, hO⟩ : ∃ O : Nat, o ||| 2 ^ k = O := ⟨_, rfl⟩
          rw [hO] at hor
          have HO := Lib.hid hO
          clear hK hO
          go_wp2_with fail
          refine (rbit_1 a s _ HX.out HB.out).mono ?_
          rintro e w' ⟨rfl, rfl⟩
          go_wp2_with fail
          go_round
          case rel => first | exact ⟨k + 1, O, by omega, by go_num, rfl, by rw [← HO.out]; exact acc_true HA.out (by unfold src; rw [if_pos rfl, HS.out, tb_1 HB.out]; simp [HV.out])⟩ | (refine ⟨trivial, ?_⟩; (repeat apply Exists.intro); exact ⟨⟨k + 1, O, by omega, by go_num, rfl, by rw [← HO.out]; exact acc_true HA.out (by unfold src; rw [if_pos rfl, HS.out, tb_1 HB.out]; simp [HV.out])⟩, rfl⟩)
          case measure => simp [intOf]; omega
      · go_wp2_with fail
        go_round
        case rel => first | exact ⟨k + 1, o, by omega, by go_num, rfl, acc_false HA.out (by unfold src; rw [if_pos rfl]; simp [hv])⟩ | (refine ⟨trivial, ?_⟩; (repeat apply Exists.intro); exact ⟨⟨k + 1, o, by omega, by go_num, rfl, acc_false HA.out (by unfold src; rw [if_pos rfl]; simp [hv])⟩, rfl⟩)
        case measure => simp [intOf]; omega
    · obtain rfl : k = N := by omega
      go_wp2_with fail
      go_ret
      exact ⟨⟨o, HA.out, rfl⟩, rfl⟩

set_option maxRecDepth 100000 in
set_option maxHeartbeats 2000000 in
theorem moved_1 (a b n N : Nat) (w : World) (hN : N ≤ 64) (hN0 : 0 < N) (hn : (b : Int) % (N : Int) = (n : Int)) (hnN : n < N) :
    Calls Tryd.prog 33 #[.int .i64 1, .int .u64 a, .int .u64 b, .int .i64 N] w fun e w' => (∃ out : Nat, Acc (src 1 N n a) N out ∧ e = .returned (.int .u64 (out : Int))) ∧ w = w' := by
  have hwN : IntKind.u64.wrap (N : Int) = (N : Int) := by rw [IntKind.wrap_u64]; omega
  have hzN : ¬ (N : Int) = 0 := by omega
  have hzN2 : ((N : Int) == 0) = false := beq_eq_false_iff_ne.2 hzN
  go_enter Tryd.func33, Tryd.ntmps33
  go_wp2_with fail
  clear hn
  go_loop [10, 11] (fun o i => ∃ k out : Nat, k ≤ N ∧ i = .int .i64 k ∧ o = .int .u64 out ∧ Acc (src 1 N n a) k out) (fun _ i => N - (intOf i).toNat)
  case atStart => exact ⟨0, 0, Nat.zero_le _, rfl, rfl, acc_0 _⟩
  case round =>
    obtain ⟨k, o, hk, rfl, rfl, hacc⟩ := hrel
    have HA := Lib.hid hacc
    clear hacc
    by_cases hlt : k < N
    · have HX2 := Lib.hid (show k < 64 by omega)
      obtain ⟨m, hm⟩ : ∃ m : Nat, (N : Int) - 1 = (m : Int) := ⟨N - 1, by omega⟩
      obtain ⟨t, ht⟩ : ∃ t : Nat, (k : Int) + n = (t : Int) := ⟨k + n, by omega⟩
      by_cases hv : t ≤ m
      · have HS := Lib.hid (show min (k + n) (N - 1) = t by omega)
        have HX := Lib.hid (show t < 64 by omega)
        have hsN : t < N := by omega
        have hmin : min (t : Int) (m : Int) = (t : Int) := by omega
        rcases (show a / 2 ^ t % 2 = 0 ∨ a / 2 ^ t % 2 = 1 by omega) with hb | hb
        · have HB := Lib.hid hb
          clear hb
          go_wp2_with fail
          refine (rbit_0 a t _ HX.out HB.out).mono ?_
          rintro e w' ⟨rfl, rfl⟩
          go_wp2_with fail
          go_round
          case rel => first | exact ⟨k + 1, o, by omega, by go_num, rfl, acc_false HA.out (by unfold src; rw [if_neg (by decide), if_pos rfl, HS.out, tb_0 HB.out])⟩ | (refine ⟨trivial, ?_⟩; (repeat apply Exists.intro); exact ⟨⟨k + 1, o, by omega, by go_num, rfl, acc_false HA.out (by unfold src; rw [if_neg (by decide), if_pos rfl, HS.out, tb_0 HB.out])⟩, rfl⟩)
          case measure => simp [intOf]; omega
        · have HB := Lib.hid hb
          clear hb
          obtain ⟨K, hK⟩ : ∃ K : Nat, K = 2 ^ k := ⟨_, rfl⟩
          have hwk := wrap_K K k HX2.out hK
          have hor := or_K o K k HA.out.1 HX2.out hK
          obtain ⟨O, hO⟩ : ∃ O : Nat, o ||| 2 ^ k = O := ⟨_, rfl⟩
          rw [hO] at hor
          have HO := Lib.hid hO
          clear hK hO
          go_wp2_with fail
          refine (rbit_1 a t _ HX.out HB.out).mono ?_
          rintro e w' ⟨rfl, rfl⟩
          go_wp2_with fail
          go_round
          case rel => first | exact ⟨k + 1, O, by omega, by go_num, rfl, by rw [← HO.out]; exact acc_true HA.out (by unfold src; rw [if_neg (by decide), if_pos rfl, HS.out, tb_1 HB.out])⟩ | (refine ⟨trivial, ?_⟩; (repeat apply Exists.intro); exact ⟨⟨k + 1, O, by omega, by go_num, rfl, by rw [← HO.out]; exact acc_true HA.out (by unfold src; rw [if_neg (by decide), if_pos rfl, HS.out, tb_1 HB.out])⟩, rfl⟩)
          case measure => simp [intOf]; omega
      · have HS := Lib.hid (show min (k + n) (N - 1) = m by omega)
        have HX := Lib.hid (show m < 64 by omega)
        have hsN : m < N := by omega
        have hv2 : m < t := by omega
        have hmin : min (t : Int) (m : Int) = (m : Int) := by omega
        rcases (show a / 2 ^ m % 2 = 0 ∨ a / 2 ^ m % 2 = 1 by omega) with hb | hb
        · have HB := Lib.hid hb
          clear hb
          go_wp2_with fail
          refine (rbit_0 a m _ HX.out HB.out).mono ?_
          rintro e w' ⟨rfl, rfl⟩
          go_wp2_with fail
          go_round
          case rel => first | exact ⟨k + 1, o, by omega, by go_num, rfl, acc_false HA.out (by unfold src; rw [if_neg (by decide), if_pos rfl, HS.out, tb_0 HB.out])⟩ | (refine ⟨trivial, ?_⟩; (repeat apply Exists.intro); exact ⟨⟨k + 1, o, by omega, by go_num, rfl, acc_false HA.out (by unfold src; rw [if_neg (by decide), if_pos rfl, HS.out, tb_0 HB.out])⟩, rfl⟩)
          case measure => simp [intOf]; omega
        · have HB := Lib.hid hb
          clear hb
          obtain ⟨K, hK⟩ : ∃ K : Nat, K = 2 ^ k := ⟨_, rfl⟩
          have hwk := wrap_K K k HX2.out hK
          have hor := or_K o K k HA.out.1 HX2.out hK
          obtain ⟨O, hO⟩ : ∃ O : Nat, o ||| 2 ^ k = O := ⟨_, rfl⟩
          rw [hO] at hor
          have HO := Lib.hid hO
          clear hK hO
          go_wp2_with fail
          refine (rbit_1 a m _ HX.out HB.out).mono ?_
          rintro e w' ⟨rfl, rfl⟩
          go_wp2_with fail
          go_round
          case rel => first | exact ⟨k + 1, O, by omega, by go_num, rfl, by rw [← HO.out]; exact acc_true HA.out (by unfold src; rw [if_neg (by decide), if_pos rfl, HS.out, tb_1 HB.out])⟩ | (refine ⟨trivial, ?_⟩; (repeat apply Exists.intro); exact ⟨⟨k + 1, O, by omega, by go_num, rfl, by rw [← HO.out]; exact acc_true HA.out (by unfold src; rw [if_neg (by decide), if_pos rfl, HS.out, tb_1 HB.out])⟩, rfl⟩)
          case measure => simp [intOf]; omega
    · obtain rfl : k = N := by omega
      go_wp2_with fail
      go_ret
      exact ⟨⟨o, HA.out, rfl⟩, rfl⟩

set_option maxRecDepth 100000 in
set_option maxHeartbeats 2000000 in
theorem moved_2 (a b n N : Nat) (w : World) (hN : N ≤ 64) (hN0 : 0 < N) (hn : (b : Int) % (N : Int) = (n : Int)) (hnN : n < N) :
    Calls Tryd.prog 33 #[.int .i64 2, .int .u64 a, .int .u64 b, .int .i64 N] w fun e w' => (∃ out : Nat, Acc (src 2 N n a) N out ∧ e = .returned (.int .u64 (out : Int))) ∧ w = w' := by
  have hwN : IntKind.u64.wrap (N : Int) = (N : Int) := by rw [IntKind.wrap_u64]; omega
  have hzN : ¬ (N : Int) = 0 := by omega
  have hzN2 : ((N : Int) == 0) = false := beq_eq_false_iff_ne.2 hzN
  go_enter Tryd.func33, Tryd.ntmps33
  go_wp2_with fail
  clear hn
  go_loop [10, 11] (fun o i => ∃ k out : Nat, k ≤ N ∧ i = .int .i64 k ∧ o = .int .u64 out ∧ Acc (src 2 N n a) k out) (fun _ i => N - (intOf i).toNat)
  case atStart => exact ⟨0, 0, Nat.zero_le _, rfl, rfl, acc_0 _⟩
  case round =>
    obtain ⟨k, o, hk, rfl, rfl, hacc⟩ := hrel
    have HA := Lib.hid hacc
    clear hacc
    by_cases hlt : k < N
    · have HX2 := Lib.hid (show k < 64 by omega)
      obtain ⟨t, ht⟩ : ∃ t : Nat, (k : Int) + n = (t : Int) := ⟨k + n, by omega⟩
      by_cases hv : t < N
      · have HS := Lib.hid (show k + n = t by omega)
        have HX := Lib.hid (show t < 64 by omega)
        have HV := Lib.hid hv
        rcases (show a / 2 ^ t % 2 = 0 ∨ a / 2 ^ t % 2 = 1 by omega) with hb | hb
        · have HB := Lib.hid hb
          clear hb
          go_wp2_with fail
          refine (rbit_0 a t _ HX.out HB.out).mono ?_
          rintro e w' ⟨rfl, rfl⟩
          go_wp2_with fail
          go_round
          case rel => first | exact ⟨k + 1, o, by omega, by go_num, rfl, acc_false HA.out (by unfold src; rw [if_neg (by decide), if_neg (by decide), if_pos rfl, HS.out, tb_0 HB.out]; simp [HV.out])⟩ | (refine ⟨trivial, ?_⟩; (repeat apply Exists.intro); exact ⟨⟨k + 1, o, by omega, by go_num, rfl, acc_false HA.out (by unfold src; rw [if_neg (by decide), if_neg (by decide), if_pos rfl, HS.out, tb_0 HB.out]; simp [HV.out])⟩, rfl⟩)
          case measure => simp [intOf]; omega
        · have HB := Lib.hid hb
          clear hb
          obtain ⟨K, hK⟩ : ∃ K : Nat, K = 2 ^ k := ⟨_, rfl⟩
          have hwk := wrap_K K k HX2.out hK
          have hor := or_K o K k HA.out.1 HX2.out hK
          obtain ⟨O, hO⟩ : ∃ O : Nat, o ||| 2 ^ k = O := ⟨_, rfl⟩
          rw [hO] at hor
          have HO := Lib.hid hO
          clear hK hO
          go_wp2_with fail
          refine (rbit_1 a t _ HX.out HB.out).mono ?_
          rintro e w' ⟨rfl, rfl⟩
          go_wp2_with fail
          go_round
          case rel => first | exact ⟨k + 1, O, by omega, by go_num, rfl, by rw [← HO.out]; exact acc_true HA.out (by unfold src; rw [if_neg (by decide), if_neg (by decide), if_pos rfl, HS.out, tb_1 HB.out]; simp [HV.out])⟩ | (refine ⟨trivial, ?_⟩; (repeat apply Exists.intro); exact ⟨⟨k + 1, O, by omega, by go_num, rfl, by rw [← HO.out]; exact acc_true HA.out (by unfold src; rw [if_neg (by decide), if_neg (by decide), if_pos rfl, HS.out, tb_1 HB.out]; simp [HV.out])⟩, rfl⟩)
          case measure => simp [intOf]; omega
      · go_wp2_with fail
        go_round
        case rel => first | exact ⟨k + 1, o, by omega, by go_num, rfl, acc_false HA.out (by unfold src; rw [if_neg (by decide), if_neg (by decide), if_pos rfl, show k + n = t by omega]; simp [hv])⟩ | (refine ⟨trivial, ?_⟩; (repeat apply Exists.intro); exact ⟨⟨k + 1, o, by omega, by go_num, rfl, acc_false HA.out (by unfold src; rw [if_neg (by decide), if_neg (by decide), if_pos rfl, show k + n = t by omega]; simp [hv])⟩, rfl⟩)
        case measure => simp [intOf]; omega
    · obtain rfl : k = N := by omega
      go_wp2_with fail
      go_ret
      exact ⟨⟨o, HA.out, rfl⟩, rfl⟩

set_option maxRecDepth 100000 in
set_option maxHeartbeats 2000000 in
theorem moved_3 (a b n N : Nat) (w : World) (hN : N ≤ 64) (hN0 : 0 < N) (hn : (b : Int) % (N : Int) = (n : Int)) (hnN : n < N) :
    Calls Tryd.prog 33 #[.int .i64 3, .int .u64 a, .int .u64 b, .int .i64 N] w fun e w' => (∃ out : Nat, Acc (src 3 N n a) N out ∧ e = .returned (.int .u64 (out : Int))) ∧ w = w' := by
  have hwN : IntKind.u64.wrap (N : Int) = (N : Int) := by rw [IntKind.wrap_u64]; omega
  have hzN : ¬ (N : Int) = 0 := by omega
  have hzN2 : ((N : Int) == 0) = false := beq_eq_false_iff_ne.2 hzN
  go_enter Tryd.func33, Tryd.ntmps33
  go_wp2_with fail
  clear hn
  go_loop [10, 11] (fun o i => ∃ k out : Nat, k ≤ N ∧ i = .int .i64 k ∧ o = .int .u64 out ∧ Acc (src 3 N n a) k out) (fun _ i => N - (intOf i).toNat)
  case atStart => exact ⟨0, 0, Nat.zero_le _, rfl, rfl, acc_0 _⟩
  case round =>
    obtain ⟨k, o, hk, rfl, rfl, hacc⟩ := hrel
    have HA := Lib.hid hacc
    clear hacc
    by_cases hlt : k < N
    · have HX2 := Lib.hid (show k < 64 by omega)
      obtain ⟨t, ht⟩ : ∃ t : Nat, (k + N - n) % N = t := ⟨_, rfl⟩
      have hs : ((k : Int) - n + N) % (N : Int) = (t : Int) := by
        rw [show (k : Int) - n + N = ((k + N - n : Nat) : Int) by omega, ← Int.natCast_emod, ht]
      have HS := Lib.hid ht
      have hsN : t < N := by rw [← ht]; exact Nat.mod_lt _ hN0
      have HX := Lib.hid (show t < 64 by omega)
      clear ht
      rcases (show a / 2 ^ t % 2 = 0 ∨ a / 2 ^ t % 2 = 1 by omega) with hb | hb
      · have HB := Lib.hid hb
        clear hb
        go_wp2_with fail
        refine (rbit_0 a t _ HX.out HB.out).mono ?_
        rintro e w' ⟨rfl, rfl⟩
        go_wp2_with fail
        go_round
        case rel => first | exact ⟨k + 1, o, by omega, by go_num, rfl, acc_false HA.out (by unfold src; rw [if_neg (by decide), if_neg (by decide), if_neg (by decide), if_pos rfl, HS.out, tb_0 HB.out])⟩ | (refine ⟨trivial, ?_⟩; (repeat apply Exists.intro); exact ⟨⟨k + 1, o, by omega, by go_num, rfl, acc_false HA.out (by unfold src; rw [if_neg (by decide), if_neg (by decide), if_neg (by decide), if_pos rfl, HS.out, tb_0 HB.out])⟩, rfl⟩)
        case measure => simp [intOf]; omega
      · have HB := Lib.hid hb
        clear hb
        obtain ⟨K, hK⟩ : ∃ K : Nat, K = 2 ^ k := ⟨_, rfl⟩
        have hwk := wrap_K K k HX2.out hK
        have hor := or_K o K k HA.out.1 HX2.out hK
        obtain ⟨O, hO⟩ : ∃ O : Nat, o ||| 2 ^ k = O := ⟨_, rfl⟩
        rw [hO] at hor
        have HO := Lib.hid hO
        clear hK hO
        go_wp2_with fail
        refine (rbit_1 a t _ HX.out HB.out).mono ?_
        rintro e w' ⟨rfl, rfl⟩
        go_wp2_with fail
        go_round
        case rel => first | exact ⟨k + 1, O, by omega, by go_num, rfl, by rw [← HO.out]; exact acc_true HA.out (by unfold src; rw [if_neg (by decide), if_neg (by decide), if_neg (by decide), if_pos rfl, HS.out, tb_1 HB.out])⟩ | (refine ⟨trivial, ?_⟩; (repeat apply Exists.intro); exact ⟨⟨k + 1, O, by omega, by go_num, rfl, by rw [← HO.out]; exact acc_true HA.out (by unfold src; rw [if_neg (by decide), if_neg (by decide), if_neg (by decide), if_pos rfl, HS.out, tb_1 HB.out])⟩, rfl⟩)
        case measure => simp [intOf]; omega
    · obtain rfl : k = N := by omega
      go_wp2_with fail
      go_ret
      exact ⟨⟨o, HA.out, rfl⟩, rfl⟩

set_option maxRecDepth 100000 in
set_option maxHeartbeats 2000000 in
theorem moved_4 (a b n N : Nat) (w : World) (hN : N ≤ 64) (hN0 : 0 < N) (hn : (b : Int) % (N : Int) = (n : Int)) (hnN : n < N) :
    Calls Tryd.prog 33 #[.int .i64 4, .int .u64 a, .int .u64 b, .int .i64 N] w fun e w' => (∃ out : Nat, Acc (src 4 N n a) N out ∧ e = .returned (.int .u64 (out : Int))) ∧ w = w' := by
  have hwN : IntKind.u64.wrap (N : Int) = (N : Int) := by rw [IntKind.wrap_u64]; omega
  have hzN : ¬ (N : Int) = 0 := by omega
  have hzN2 : ((N : Int) == 0) = false := beq_eq_false_iff_ne.2 hzN
  go_enter Tryd.func33, Tryd.ntmps33
  go_wp2_with fail
  clear hn
  go_loop [10, 11] (fun o i => ∃ k out : Nat, k ≤ N ∧ i = .int .i64 k ∧ o = .int .u64 out ∧ Acc (src 4 N n a) k out) (fun _ i => N - (intOf i).toNat)
  case atStart => exact ⟨0, 0, Nat.zero_le _, rfl, rfl, acc_0 _⟩
  case round =>
    obtain ⟨k, o, hk, rfl, rfl, hacc⟩ := hrel
    have HA := Lib.hid hacc
    clear hacc
    by_cases hlt : k < N
    · have HX2 := Lib.hid (show k < 64 by omega)
      obtain ⟨t, ht⟩ : ∃ t : Nat, (k + n + N) % N = t := ⟨_, rfl⟩
      have hs : ((k : Int) + n + N) % (N : Int) = (t : Int) := by
        rw [show (k : Int) + n + N = ((k + n + N : Nat) : Int) by omega, ← Int.natCast_emod, ht]
      have HS := Lib.hid ht
      have hsN : t < N := by rw [← ht]; exact Nat.mod_lt _ hN0
      have HX := Lib.hid (show t < 64 by omega)
      clear ht
      rcases (show a / 2 ^ t % 2 = 0 ∨ a / 2 ^ t % 2 = 1 by omega) with hb | hb
      · have HB := Lib.hid hb
        clear hb
        go_wp2_with fail
        refine (rbit_0 a t _ HX.out HB.out).mono ?_
        rintro e w' ⟨rfl, rfl⟩
        go_wp2_with fail
        go_round
        case rel => first | exact ⟨k + 1, o, by omega, by go_num, rfl, acc_false HA.out (by unfold src; rw [if_neg (by decide), if_neg (by decide), if_neg (by decide), if_neg (by decide), HS.out, tb_0 HB.out])⟩ | (refine ⟨trivial, ?_⟩; (repeat apply Exists.intro); exact ⟨⟨k + 1, o, by omega, by go_num, rfl, acc_false HA.out (by unfold src; rw [if_neg (by decide), if_neg (by decide), if_neg (by decide), if_neg (by decide), HS.out, tb_0 HB.out])⟩, rfl⟩)
        case measure => simp [intOf]; omega
      · have HB := Lib.hid hb
        clear hb
        obtain ⟨K, hK⟩ : ∃ K : Nat, K = 2 ^ k := ⟨_, rfl⟩
        have hwk := wrap_K K k HX2.out hK
        have hor := or_K o K k HA.out.1 HX2.out hK
        obtain ⟨O, hO⟩ : ∃ O : Nat, o ||| 2 ^ k = O := ⟨_, rfl⟩
        rw [hO] at hor
        have HO := Lib.hid hO
        clear hK hO
        go_wp2_with fail
        refine (rbit_1 a t _ HX.out HB.out).mono ?_
        rintro e w' ⟨rfl, rfl⟩
        go_wp2_with fail
        go_round
        case rel => first | exact ⟨k + 1, O, by omega, by go_num, rfl, by rw [← HO.out]; exact acc_true HA.out (by unfold src; rw [if_neg (by decide), if_neg (by decide), if_neg (by decide), if_neg (by decide), HS.out, tb_1 HB.out])⟩ | (refine ⟨trivial, ?_⟩; (repeat apply Exists.intro); exact ⟨⟨k + 1, O, by omega, by go_num, rfl, by rw [← HO.out]; exact acc_true HA.out (by unfold src; rw [if_neg (by decide), if_neg (by decide), if_neg (by decide), if_neg (by decide), HS.out, tb_1 HB.out])⟩, rfl⟩)
        case measure => simp [intOf]; omega
    · obtain rfl : k = N := by omega
      go_wp2_with fail
      go_ret
      exact ⟨⟨o, HA.out, rfl⟩, rfl⟩
end Go.Proofs.YtebikmnegemggaaDoor.Num
