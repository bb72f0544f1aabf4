/-
  The walk of NumTwos: it answers true. No condition beyond what the theorem names.
-/
import Derived.Test.YtebikmnegemggaaDoorNumRTwo
namespace Go.Proofs.YtebikmnegemggaaDoor.Num
open Go.RowKit
set_option linter.unusedVariables false

set_option maxRecDepth 100000 in
set_option maxHeartbeats 1000000 in
theorem rtwo_t32 (op : Int) (k a b c d : Nat) (w : World) (hop : op = 70 + (k : Int)) (hk : k < 10) (hc : a % 4294967296 = c) (hd : b % 4294967296 = d) (ha : c < 4294967296) (hb : d < 4294967296) :
    Calls Tryd.prog 17 #[.int .i64 op, .int .u64 a, .int .u64 b] w fun e w' => e = .returned (.tuple #[.int .u64 (twoA op a b).1, .int .i64 (twoA op a b).2]) ∧ w = w' := by
  have HE := Lib.hid (twoA_t32 k a b hk op hop)
  rw [hc, hd] at HE
  have HC := Lib.hid hc
  have HD := Lib.hid hd
  clear hc hd
  have f0 : decide (70 ≤ op) = true := decide_eq_true (by omega)
  have f1 : decide (op ≤ 79) = true := decide_eq_true (by omega)
  have f2 : decide (81 ≤ op) = false := decide_eq_false (by omega)
  have f3 : decide (op ≤ 90) = true := decide_eq_true (by omega)
  have f4 : decide (106 ≤ op) = false := decide_eq_false (by omega)
  have f5 : decide (op ≤ 120) = true := decide_eq_true (by omega)
  have f6 : decide (124 ≤ op) = false := decide_eq_false (by omega)
  have f7 : decide (op ≤ 138) = true := decide_eq_true (by omega)
  have g0 : op - 70 = (k : Int) := by omega
  have HA := Lib.hid ha
  have HB := Lib.hid hb
  clear ha hb hop
  go_enter Tryd.func17, Tryd.ntmps17
  go_wp2_with fail
  refine (rcut_32 a c _ HC.out).mono ?_
  rintro e w' ⟨rfl, rfl⟩
  go_wp2_with fail
  refine (rcut_32 b d _ HD.out).mono ?_
  rintro e w' ⟨rfl, rfl⟩
  go_wp2_with fail
  refine (rtest32_any k hk c d _ HA.out HB.out).mono ?_
  rintro e w' ⟨rfl, rfl⟩
  go_wp2_with fail
  refine (rtruth_any _ _).mono ?_
  rintro e w' ⟨rfl, rfl⟩
  go_wp2_with fail
  go_ret2
  rw [HE.out]
  exact ⟨rfl, rfl⟩

set_option maxRecDepth 100000 in
set_option maxHeartbeats 1000000 in
theorem rtwo_t64 (op : Int) (k a b c d : Nat) (w : World) (hop : op = 81 + (k : Int)) (hk : k < 10) (hc : a = c) (hd : b = d) (ha : c < 18446744073709551616) (hb : d < 18446744073709551616) :
    Calls Tryd.prog 17 #[.int .i64 op, .int .u64 a, .int .u64 b] w fun e w' => e = .returned (.tuple #[.int .u64 (twoA op a b).1, .int .i64 (twoA op a b).2]) ∧ w = w' := by
  have HE := Lib.hid (twoA_t64 k a b hk op hop)
  subst hc
  subst hd
  have f0 : decide (70 ≤ op) = true := decide_eq_true (by omega)
  have f1 : decide (op ≤ 79) = false := decide_eq_false (by omega)
  have f2 : decide (81 ≤ op) = true := decide_eq_true (by omega)
  have f3 : decide (op ≤ 90) = true := decide_eq_true (by omega)
  have f4 : decide (106 ≤ op) = false := decide_eq_false (by omega)
  have f5 : decide (op ≤ 120) = true := decide_eq_true (by omega)
  have f6 : decide (124 ≤ op) = false := decide_eq_false (by omega)
  have f7 : decide (op ≤ 138) = true := decide_eq_true (by omega)
  have g0 : op - 81 = (k : Int) := by omega
  have HA := Lib.hid ha
  have HB := Lib.hid hb
  clear ha hb hop
  go_enter Tryd.func17, Tryd.ntmps17
  go_wp2_with fail
  refine (rcut_64 _ _).mono ?_
  rintro e w' ⟨rfl, rfl⟩
  go_wp2_with fail
  refine (rcut_64 _ _).mono ?_
  rintro e w' ⟨rfl, rfl⟩
  go_wp2_with fail
  refine (rtest64_any k hk a b _ HA.out HB.out).mono ?_
  rintro e w' ⟨rfl, rfl⟩
  go_wp2_with fail
  refine (rtruth_any _ _).mono ?_
  rintro e w' ⟨rfl, rfl⟩
  go_wp2_with fail
  go_ret2
  rw [HE.out]
  exact ⟨rfl, rfl⟩

set_option maxRecDepth 100000 in
set_option maxHeartbeats 1000000 in
theorem rtwo_none_a (op : Int) (a b : Nat) (w : World) (h : op < 70) :
    Calls Tryd.prog 17 #[.int .i64 op, .int .u64 a, .int .u64 b] w fun e w' => e = .returned (.tuple #[.int .u64 (twoA op a b).1, .int .i64 (twoA op a b).2]) ∧ w = w' := by
  have HE := Lib.hid (show twoA op a b = (0, 3) by unfold twoA; rw [if_neg (by omega), if_neg (by omega), if_neg (by omega), if_neg (by omega)])
  have f0 : decide (70 ≤ op) = false := decide_eq_false (by omega)
  have f1 : decide (op ≤ 79) = true := decide_eq_true (by omega)
  have f2 : decide (81 ≤ op) = false := decide_eq_false (by omega)
  have f3 : decide (op ≤ 90) = true := decide_eq_true (by omega)
  have f4 : decide (106 ≤ op) = false := decide_eq_false (by omega)
  have f5 : decide (op ≤ 120) = true := decide_eq_true (by omega)
  have f6 : decide (124 ≤ op) = false := decide_eq_false (by omega)
  have f7 : decide (op ≤ 138) = true := decide_eq_true (by omega)
  clear h
  go_enter Tryd.func17, Tryd.ntmps17
  go_wp2_with fail
  go_ret2
  rw [HE.out]
  exact ⟨rfl, rfl⟩

set_option maxRecDepth 100000 in
set_option maxHeartbeats 1000000 in
theorem rtwo_none_b (op : Int) (a b : Nat) (w : World) (h : op = 80) :
    Calls Tryd.prog 17 #[.int .i64 op, .int .u64 a, .int .u64 b] w fun e w' => e = .returned (.tuple #[.int .u64 (twoA op a b).1, .int .i64 (twoA op a b).2]) ∧ w = w' := by
  have HE := Lib.hid (show twoA op a b = (0, 3) by unfold twoA; rw [if_neg (by omega), if_neg (by omega), if_neg (by omega), if_neg (by omega)])
  subst h
  go_enter Tryd.func17, Tryd.ntmps17
  go_wp2_with fail
  go_ret2
  rw [HE.out]
  exact ⟨rfl, rfl⟩

set_option maxRecDepth 100000 in
set_option maxHeartbeats 1000000 in
theorem rtwo_none_c (op : Int) (a b : Nat) (w : World) (h : 90 < op ∧ op < 106) :
    Calls Tryd.prog 17 #[.int .i64 op, .int .u64 a, .int .u64 b] w fun e w' => e = .returned (.tuple #[.int .u64 (twoA op a b).1, .int .i64 (twoA op a b).2]) ∧ w = w' := by
  have HE := Lib.hid (show twoA op a b = (0, 3) by unfold twoA; rw [if_neg (by omega), if_neg (by omega), if_neg (by omega), if_neg (by omega)])
  have f0 : decide (70 ≤ op) = true := decide_eq_true (by omega)
  have f1 : decide (op ≤ 79) = false := decide_eq_false (by omega)
  have f2 : decide (81 ≤ op) = true := decide_eq_true (by omega)
  have f3 : decide (op ≤ 90) = false := decide_eq_false (by omega)
  have f4 : decide (106 ≤ op) = false := decide_eq_false (by omega)
  have f5 : decide (op ≤ 120) = true := decide_eq_true (by omega)
  have f6 : decide (124 ≤ op) = false := decide_eq_false (by omega)
  have f7 : decide (op ≤ 138) = true := decide_eq_true (by omega)
  clear h
  go_enter Tryd.func17, Tryd.ntmps17
  go_wp2_with fail
  go_ret2
  rw [HE.out]
  exact ⟨rfl, rfl⟩

set_option maxRecDepth 100000 in
set_option maxHeartbeats 1000000 in
theorem rtwo_none_d (op : Int) (a b : Nat) (w : World) (h : 120 < op ∧ op < 124) :
    Calls Tryd.prog 17 #[.int .i64 op, .int .u64 a, .int .u64 b] w fun e w' => e = .returned (.tuple #[.int .u64 (twoA op a b).1, .int .i64 (twoA op a b).2]) ∧ w = w' := by
  have HE := Lib.hid (show twoA op a b = (0, 3) by unfold twoA; rw [if_neg (by omega), if_neg (by omega), if_neg (by omega), if_neg (by omega)])
  have f0 : decide (70 ≤ op) = true := decide_eq_true (by omega)
  have f1 : decide (op ≤ 79) = false := decide_eq_false (by omega)
  have f2 : decide (81 ≤ op) = true := decide_eq_true (by omega)
  have f3 : decide (op ≤ 90) = false := decide_eq_false (by omega)
  have f4 : decide (106 ≤ op) = true := decide_eq_true (by omega)
  have f5 : decide (op ≤ 120) = false := decide_eq_false (by omega)
  have f6 : decide (124 ≤ op) = false := decide_eq_false (by omega)
  have f7 : decide (op ≤ 138) = true := decide_eq_true (by omega)
  clear h
  go_enter Tryd.func17, Tryd.ntmps17
  go_wp2_with fail
  go_ret2
  rw [HE.out]
  exact ⟨rfl, rfl⟩

set_option maxRecDepth 100000 in
set_option maxHeartbeats 1000000 in
theorem rtwo_none_e (op : Int) (a b : Nat) (w : World) (h : 138 < op) :
    Calls Tryd.prog 17 #[.int .i64 op, .int .u64 a, .int .u64 b] w fun e w' => e = .returned (.tuple #[.int .u64 (twoA op a b).1, .int .i64 (twoA op a b).2]) ∧ w = w' := by
  have HE := Lib.hid (show twoA op a b = (0, 3) by unfold twoA; rw [if_neg (by omega), if_neg (by omega), if_neg (by omega), if_neg (by omega)])
  have f0 : decide (70 ≤ op) = true := decide_eq_true (by omega)
  have f1 : decide (op ≤ 79) = false := decide_eq_false (by omega)
  have f2 : decide (81 ≤ op) = true := decide_eq_true (by omega)
  have f3 : decide (op ≤ 90) = false := decide_eq_false (by omega)
  have f4 : decide (106 ≤ op) = true := decide_eq_true (by omega)
  have f5 : decide (op ≤ 120) = false := decide_eq_false (by omega)
  have f6 : decide (124 ≤ op) = true := decide_eq_true (by omega)
  have f7 : decide (op ≤ 138) = false := decide_eq_false (by omega)
  clear h
  go_enter Tryd.func17, Tryd.ntmps17
  go_wp2_with fail
  go_ret2
  rw [HE.out]
  exact ⟨rfl, rfl⟩

theorem rtwo_any (op : Int) (a b : Nat) (w : World) (ha : a < 18446744073709551616) (hb : b < 18446744073709551616) :
    Calls Tryd.prog 17 #[.int .i64 op, .int .u64 a, .int .u64 b] w fun e w' => e = .returned (.tuple #[.int .u64 (twoA op a b).1, .int .i64 (twoA op a b).2]) ∧ w = w' := by
  have hc : a % 4294967296 < 4294967296 := by omega
  have hd : b % 4294967296 < 4294967296 := by omega
  rcases (show op < 70 ∨ (70 ≤ op ∧ op ≤ 79) ∨ op = 80 ∨ (81 ≤ op ∧ op ≤ 90) ∨ (90 < op ∧ op < 106) ∨ op = 106 ∨ op = 107 ∨ op = 108 ∨ op = 109 ∨ op = 110 ∨ op = 111 ∨ op = 112 ∨ op = 113 ∨ op = 114 ∨ op = 115 ∨ op = 116 ∨ op = 117 ∨ op = 118 ∨ op = 119 ∨ op = 120 ∨ (120 < op ∧ op < 124) ∨ op = 124 ∨ op = 125 ∨ op = 126 ∨ op = 127 ∨ op = 128 ∨ op = 129 ∨ op = 130 ∨ op = 131 ∨ op = 132 ∨ op = 133 ∨ op = 134 ∨ op = 135 ∨ op = 136 ∨ op = 137 ∨ op = 138 ∨ 138 < op by omega) with h | h | h | h | h | rfl | rfl | rfl | rfl | rfl | rfl | rfl | rfl | rfl | rfl | rfl | rfl | rfl | rfl | rfl | h | rfl | rfl | rfl | rfl | rfl | rfl | rfl | rfl | rfl | rfl | rfl | rfl | rfl | rfl | rfl | h
  · exact rtwo_none_a op a b w h
  · exact rtwo_t32 op (op - 70).toNat a b _ _ w (by omega) (by omega) rfl rfl hc hd
  · exact rtwo_none_b op a b w h
  · exact rtwo_t64 op (op - 81).toNat a b _ _ w (by omega) (by omega) rfl rfl ha hb
  · exact rtwo_none_c op a b w h
  · exact rtwo_106 a b _ _ w rfl rfl hc hd
  · exact rtwo_107 a b _ _ w rfl rfl hc hd
  · exact rtwo_108 a b _ _ w rfl rfl hc hd
  · by_cases h0 : (b % 4294967296) = 0
    · exact rtwo_109z3 a b _ _ w rfl rfl hc hd h0
    · by_cases hx : wrap32 ((a % 4294967296) : Nat) = -2147483648
      · by_cases hy : wrap32 ((b % 4294967296) : Nat) = -1
        · exact rtwo_109l a b _ _ w rfl rfl hc hd h0 hx hy
        · exact rtwo_109k a b _ _ w rfl rfl hc hd h0 hx hy
      · by_cases hy : wrap32 ((b % 4294967296) : Nat) = -1
        · exact rtwo_109m a b _ _ w rfl rfl hc hd h0 hx hy
        · exact rtwo_109n a b _ _ w rfl rfl hc hd h0 hx hy
  · by_cases h0 : (b % 4294967296) = 0
    · exact rtwo_110z4 a b _ _ w rfl rfl hc hd h0
    · exact rtwo_110u a b _ _ w rfl rfl hc hd h0
  · by_cases h0 : (b % 4294967296) = 0
    · exact rtwo_111z5 a b _ _ w rfl rfl hc hd h0
    · by_cases hy : wrap32 ((b % 4294967296) : Nat) = -1
      · exact rtwo_111r1 a b _ _ w rfl rfl hc hd h0 hy
      · exact rtwo_111r a b _ _ w rfl rfl hc hd h0 hy
  · by_cases h0 : (b % 4294967296) = 0
    · exact rtwo_112z6 a b _ _ w rfl rfl hc hd h0
    · exact rtwo_112ru a b _ _ w rfl rfl hc hd h0
  · exact rtwo_113 a b _ _ w rfl rfl hc hd
  · exact rtwo_114 a b _ _ w rfl rfl hc hd
  · exact rtwo_115 a b _ _ w rfl rfl hc hd
  · exact rtwo_116 a b _ _ w rfl rfl hc hd
  · exact rtwo_117 a b _ _ w rfl rfl hc hd
  · exact rtwo_118 a b _ _ w rfl rfl hc hd
  · exact rtwo_119 a b _ _ w rfl rfl hc hd
  · exact rtwo_120 a b _ _ w rfl rfl hc hd
  · exact rtwo_none_d op a b w h
  · exact rtwo_124 a b _ _ w rfl rfl ha hb
  · exact rtwo_125 a b _ _ w rfl rfl ha hb
  · exact rtwo_126 a b _ _ w rfl rfl ha hb
  · by_cases h0 : b = 0
    · exact rtwo_127z3 a b _ _ w rfl rfl ha hb h0
    · by_cases hx : wrap64 (a : Nat) = -9223372036854775808
      · by_cases hy : wrap64 (b : Nat) = -1
        · exact rtwo_127l a b _ _ w rfl rfl ha hb h0 hx hy
        · exact rtwo_127k a b _ _ w rfl rfl ha hb h0 hx hy
      · by_cases hy : wrap64 (b : Nat) = -1
        · exact rtwo_127m a b _ _ w rfl rfl ha hb h0 hx hy
        · exact rtwo_127n a b _ _ w rfl rfl ha hb h0 hx hy
  · by_cases h0 : b = 0
    · exact rtwo_128z4 a b _ _ w rfl rfl ha hb h0
    · exact rtwo_128u a b _ _ w rfl rfl ha hb h0
  · by_cases h0 : b = 0
    · exact rtwo_129z5 a b _ _ w rfl rfl ha hb h0
    · by_cases hy : wrap64 (b : Nat) = -1
      · exact rtwo_129r1 a b _ _ w rfl rfl ha hb h0 hy
      · exact rtwo_129r a b _ _ w rfl rfl ha hb h0 hy
  · by_cases h0 : b = 0
    · exact rtwo_130z6 a b _ _ w rfl rfl ha hb h0
    · exact rtwo_130ru a b _ _ w rfl rfl ha hb h0
  · exact rtwo_131 a b _ _ w rfl rfl ha hb
  · exact rtwo_132 a b _ _ w rfl rfl ha hb
  · exact rtwo_133 a b _ _ w rfl rfl ha hb
  · exact rtwo_134 a b _ _ w rfl rfl ha hb
  · exact rtwo_135 a b _ _ w rfl rfl ha hb
  · exact rtwo_136 a b _ _ w rfl rfl ha hb
  · exact rtwo_137 a b _ _ w rfl rfl ha hb
  · exact rtwo_138 a b _ _ w rfl rfl ha hb
  · exact rtwo_none_e op a b w h

set_option maxRecDepth 100000 in
set_option maxHeartbeats 1000000 in
theorem twos_walk (op : Int) (which a b : Nat) (w : World) (h1 : -9223372036854775808 ≤ op) (h2 : op < 9223372036854775808) (ha : a < 18446744073709551616) (hb : b < 18446744073709551616) :
    Calls Tryd.prog 4 #[.int .i64 op, .int .u8 which, .int .u64 a, .int .u64 b] w fun e w' => e = .returned (.bool true) ∧ Below w.heap.size w w' := by
  have HA := Lib.hid ha
  have HB := Lib.hid hb
  clear ha hb
  go_enter Tryd.func4, Tryd.ntmps4
  go_wp2_with fail
  refine (examples_any _).mono ?_
  rintro e w0 ⟨rfl, b0⟩
  go_wp2_with fail
  refine (pick_any op which _ h1 h2).mono ?_
  rintro e w1 ⟨p, p0, p1, rfl, rfl⟩
  clear h1 h2
  obtain ⟨v, hv⟩ : ∃ v, twoA p a b = v := ⟨_, rfl⟩
  have HV := Lib.hid hv
  clear hv
  go_wp2_with fail
  refine (two_any p a b _ HA.out HB.out ⟨by omega, p1⟩).mono ?_
  rintro e w2 ⟨rfl, c2⟩
  rw [HV.out]
  have b2 := b0.trans (c2.mono b0.size)
  go_wp2_with fail
  refine (rtwo_any p a b _ HA.out HB.out).mono ?_
  rintro e w3 ⟨rfl, rfl⟩
  rw [HV.out]
  go_wp2_with fail
  go_ret
  exact ⟨rfl, b2⟩
end Go.Proofs.YtebikmnegemggaaDoor.Num
