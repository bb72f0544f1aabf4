/-
  What num.Two answers, at any code. No condition beyond what the theorem names.
-/
import Derived.Test.YtebikmnegemggaaDoorNumB
import Derived.Test.YtebikmnegemggaaDoorNumC
namespace Go.Proofs.YtebikmnegemggaaDoor.Num
open Go.RowKit
set_option linter.unusedVariables false

/-- what Two answers -/
def twoA (op : Int) (a b : Nat) : Int × Int :=
  if 70 ≤ op ∧ op < 80 then (truthA (testB (op - 70).toNat (ord (wrap32 ((a % 4294967296 : Nat) : Int)) (wrap32 ((b % 4294967296 : Nat) : Int))) (ord ((a % 4294967296 : Nat) : Int) ((b % 4294967296 : Nat) : Int))), 0)
  else if 81 ≤ op ∧ op < 91 then (truthA (testB (op - 81).toNat (ord (wrap64 (a : Int)) (wrap64 (b : Int))) (ord (a : Int) (b : Int))), 0)
  else if 106 ≤ op ∧ op < 121 then r32 (op - 106).toNat (a % 4294967296) (b % 4294967296)
  else if 124 ≤ op ∧ op < 139 then r64 (op - 124).toNat a b
  else (0, 3)

set_option maxRecDepth 100000 in
set_option maxHeartbeats 1000000 in
theorem two_any (op : Int) (a b : Nat) (w : World) (ha : a < 2 ^ 64) (hb : b < 2 ^ 64) (hop : -9223372036854775808 ≤ op ∧ op < 9223372036854775808) :
    Calls Tryd.prog 16 #[.int .i64 op, .int .u64 a, .int .u64 b] w fun e w' => e = .returned (.tuple #[.int .u64 (twoA op a b).1, .int .i64 (twoA op a b).2]) ∧ Below w.heap.size w w' := by
  obtain ⟨c, hc⟩ : ∃ c : Nat, (a : Int) % 4294967296 = (c : Int) := ⟨a % 4294967296, by omega⟩
  obtain ⟨d, hd⟩ : ∃ d : Nat, (b : Int) % 4294967296 = (d : Int) := ⟨b % 4294967296, by omega⟩
  have HCE := Lib.hid (show a % 4294967296 = c by omega)
  have HDE := Lib.hid (show b % 4294967296 = d by omega)
  have HC := Lib.hid (show c < 2 ^ 32 by omega)
  have HD := Lib.hid (show d < 2 ^ 32 by omega)
  have HA := Lib.hid ha
  have HB := Lib.hid hb
  clear ha hb
  rcases (show op ≤ 69 ∨ (70 ≤ op ∧ op ≤ 79) ∨ op = 80 ∨ (81 ≤ op ∧ op ≤ 90) ∨ (91 ≤ op ∧ op ≤ 105) ∨ (106 ≤ op ∧ op ≤ 120) ∨ (121 ≤ op ∧ op ≤ 123) ∨ (124 ≤ op ∧ op ≤ 138) ∨ 139 ≤ op by omega) with h | h | h | h | h | h | h | h | h
  · have HV := Lib.hid (show twoA op a b = (0, 3) by unfold twoA; rw [if_neg (by omega), if_neg (by omega), if_neg (by omega), if_neg (by omega)])
    have f0 : decide (70 ≤ op) = false := decide_eq_false (by omega)
    have f1 : decide (81 ≤ op) = false := decide_eq_false (by omega)
    have f2 : decide (106 ≤ op) = false := decide_eq_false (by omega)
    have f3 : decide (124 ≤ op) = false := decide_eq_false (by omega)
    have f4 : decide (op < 80) = true := decide_eq_true (by omega)
    have f5 : decide (op < 91) = true := decide_eq_true (by omega)
    have f6 : decide (op < 121) = true := decide_eq_true (by omega)
    have f7 : decide (op < 139) = true := decide_eq_true (by omega)
    clear h hop
    go_enter Tryd.func16, Tryd.ntmps16
    go_wp2_with fail
    go_ret2
    refine ⟨?_, Below.refl _ _⟩
    rw [HV.out]
    exact retE rfl rfl
  · have HV := Lib.hid (show twoA op a b = (truthA (testB (op - 70).toNat (ord (wrap32 (c : Int)) (wrap32 (d : Int))) (ord (c : Int) (d : Int))), 0) by unfold twoA; rw [if_pos (by omega)]; rw [HCE.out, HDE.out])
    have f0 : decide (70 ≤ op) = true := decide_eq_true (by omega)
    have f1 : decide (81 ≤ op) = false := decide_eq_false (by omega)
    have f2 : decide (106 ≤ op) = false := decide_eq_false (by omega)
    have f3 : decide (124 ≤ op) = false := decide_eq_false (by omega)
    have f4 : decide (op < 80) = true := decide_eq_true (by omega)
    have f5 : decide (op < 91) = true := decide_eq_true (by omega)
    have f6 : decide (op < 121) = true := decide_eq_true (by omega)
    have f7 : decide (op < 139) = true := decide_eq_true (by omega)
    have g0 : 0 ≤ op - 70 := by omega
    have g1 : op - 70 ≤ 9 := by omega
    clear h
    go_enter Tryd.func16, Tryd.ntmps16
    go_wp2_with fail
    refine (order_i32 _ _ _).mono ?_
    rintro e w' ⟨rfl, rfl⟩
    go_wp2_with fail
    refine (order_u32 _ _ _).mono ?_
    rintro e w' ⟨rfl, rfl⟩
    go_wp2_with fail
    refine (test_any _ _ _ _ g0 g1).mono ?_
    rintro e w' ⟨rfl, rfl⟩
    go_wp2_with fail
    refine (truth_any _ _).mono ?_
    rintro e w' ⟨rfl, rfl⟩
    go_wp2_with fail
    go_ret2
    refine ⟨?_, Below.refl _ _⟩
    rw [HV.out]
    exact retE rfl rfl
  · have HV := Lib.hid (show twoA op a b = (0, 3) by unfold twoA; rw [if_neg (by omega), if_neg (by omega), if_neg (by omega), if_neg (by omega)])
    have f0 : decide (70 ≤ op) = true := decide_eq_true (by omega)
    have f1 : decide (81 ≤ op) = false := decide_eq_false (by omega)
    have f2 : decide (106 ≤ op) = false := decide_eq_false (by omega)
    have f3 : decide (124 ≤ op) = false := decide_eq_false (by omega)
    have f4 : decide (op < 80) = false := decide_eq_false (by omega)
    have f5 : decide (op < 91) = true := decide_eq_true (by omega)
    have f6 : decide (op < 121) = true := decide_eq_true (by omega)
    have f7 : decide (op < 139) = true := decide_eq_true (by omega)
    clear h hop
    go_enter Tryd.func16, Tryd.ntmps16
    go_wp2_with fail
    go_ret2
    refine ⟨?_, Below.refl _ _⟩
    rw [HV.out]
    exact retE rfl rfl
  · have HV := Lib.hid (show twoA op a b = (truthA (testB (op - 81).toNat (ord (wrap64 (a : Int)) (wrap64 (b : Int))) (ord (a : Int) (b : Int))), 0) by unfold twoA; rw [if_neg (by omega), if_pos (by omega)])
    have f0 : decide (70 ≤ op) = true := decide_eq_true (by omega)
    have f1 : decide (81 ≤ op) = true := decide_eq_true (by omega)
    have f2 : decide (106 ≤ op) = false := decide_eq_false (by omega)
    have f3 : decide (124 ≤ op) = false := decide_eq_false (by omega)
    have f4 : decide (op < 80) = false := decide_eq_false (by omega)
    have f5 : decide (op < 91) = true := decide_eq_true (by omega)
    have f6 : decide (op < 121) = true := decide_eq_true (by omega)
    have f7 : decide (op < 139) = true := decide_eq_true (by omega)
    have g0 : 0 ≤ op - 81 := by omega
    have g1 : op - 81 ≤ 9 := by omega
    clear h
    go_enter Tryd.func16, Tryd.ntmps16
    go_wp2_with fail
    refine (order_i64 _ _ _).mono ?_
    rintro e w' ⟨rfl, rfl⟩
    go_wp2_with fail
    refine (order_u64 _ _ _).mono ?_
    rintro e w' ⟨rfl, rfl⟩
    go_wp2_with fail
    refine (test_any _ _ _ _ g0 g1).mono ?_
    rintro e w' ⟨rfl, rfl⟩
    go_wp2_with fail
    refine (truth_any _ _).mono ?_
    rintro e w' ⟨rfl, rfl⟩
    go_wp2_with fail
    go_ret2
    refine ⟨?_, Below.refl _ _⟩
    rw [HV.out]
    exact retE rfl rfl
  · have HV := Lib.hid (show twoA op a b = (0, 3) by unfold twoA; rw [if_neg (by omega), if_neg (by omega), if_neg (by omega), if_neg (by omega)])
    have f0 : decide (70 ≤ op) = true := decide_eq_true (by omega)
    have f1 : decide (81 ≤ op) = true := decide_eq_true (by omega)
    have f2 : decide (106 ≤ op) = false := decide_eq_false (by omega)
    have f3 : decide (124 ≤ op) = false := decide_eq_false (by omega)
    have f4 : decide (op < 80) = false := decide_eq_false (by omega)
    have f5 : decide (op < 91) = false := decide_eq_false (by omega)
    have f6 : decide (op < 121) = true := decide_eq_true (by omega)
    have f7 : decide (op < 139) = true := decide_eq_true (by omega)
    clear h hop
    go_enter Tryd.func16, Tryd.ntmps16
    go_wp2_with fail
    go_ret2
    refine ⟨?_, Below.refl _ _⟩
    rw [HV.out]
    exact retE rfl rfl
  · have HV := Lib.hid (show twoA op a b = r32 (op - 106).toNat c d by unfold twoA; rw [if_neg (by omega), if_neg (by omega), if_pos (by omega)]; rw [HCE.out, HDE.out])
    have f0 : decide (70 ≤ op) = true := decide_eq_true (by omega)
    have f1 : decide (81 ≤ op) = true := decide_eq_true (by omega)
    have f2 : decide (106 ≤ op) = true := decide_eq_true (by omega)
    have f3 : decide (124 ≤ op) = false := decide_eq_false (by omega)
    have f4 : decide (op < 80) = false := decide_eq_false (by omega)
    have f5 : decide (op < 91) = false := decide_eq_false (by omega)
    have f6 : decide (op < 121) = true := decide_eq_true (by omega)
    have f7 : decide (op < 139) = true := decide_eq_true (by omega)
    have g0 : 0 ≤ op - 106 := by omega
    have g1 : op - 106 ≤ 14 := by omega
    clear h
    go_enter Tryd.func16, Tryd.ntmps16
    go_wp2_with fail
    refine (reckon32_any _ _ _ _ g0 g1 HC.out HD.out).mono ?_
    rintro e w' ⟨rfl, b1⟩
    go_wp2_with fail
    go_ret2
    refine ⟨?_, b1⟩
    rw [HV.out]
    exact retE rfl rfl
  · have HV := Lib.hid (show twoA op a b = (0, 3) by unfold twoA; rw [if_neg (by omega), if_neg (by omega), if_neg (by omega), if_neg (by omega)])
    have f0 : decide (70 ≤ op) = true := decide_eq_true (by omega)
    have f1 : decide (81 ≤ op) = true := decide_eq_true (by omega)
    have f2 : decide (106 ≤ op) = true := decide_eq_true (by omega)
    have f3 : decide (124 ≤ op) = false := decide_eq_false (by omega)
    have f4 : decide (op < 80) = false := decide_eq_false (by omega)
    have f5 : decide (op < 91) = false := decide_eq_false (by omega)
    have f6 : decide (op < 121) = false := decide_eq_false (by omega)
    have f7 : decide (op < 139) = true := decide_eq_true (by omega)
    clear h hop
    go_enter Tryd.func16, Tryd.ntmps16
    go_wp2_with fail
    go_ret2
    refine ⟨?_, Below.refl _ _⟩
    rw [HV.out]
    exact retE rfl rfl
  · have HV := Lib.hid (show twoA op a b = r64 (op - 124).toNat a b by unfold twoA; rw [if_neg (by omega), if_neg (by omega), if_neg (by omega), if_pos (by omega)])
    have f0 : decide (70 ≤ op) = true := decide_eq_true (by omega)
    have f1 : decide (81 ≤ op) = true := decide_eq_true (by omega)
    have f2 : decide (106 ≤ op) = true := decide_eq_true (by omega)
    have f3 : decide (124 ≤ op) = true := decide_eq_true (by omega)
    have f4 : decide (op < 80) = false := decide_eq_false (by omega)
    have f5 : decide (op < 91) = false := decide_eq_false (by omega)
    have f6 : decide (op < 121) = false := decide_eq_false (by omega)
    have f7 : decide (op < 139) = true := decide_eq_true (by omega)
    have g0 : 0 ≤ op - 124 := by omega
    have g1 : op - 124 ≤ 14 := by omega
    clear h
    go_enter Tryd.func16, Tryd.ntmps16
    go_wp2_with fail
    refine (reckon64_any _ _ _ _ g0 g1 HA.out HB.out).mono ?_
    rintro e w' ⟨rfl, b1⟩
    go_wp2_with fail
    go_ret2
    refine ⟨?_, b1⟩
    rw [HV.out]
    exact retE rfl rfl
  · have HV := Lib.hid (show twoA op a b = (0, 3) by unfold twoA; rw [if_neg (by omega), if_neg (by omega), if_neg (by omega), if_neg (by omega)])
    have f0 : decide (70 ≤ op) = true := decide_eq_true (by omega)
    have f1 : decide (81 ≤ op) = true := decide_eq_true (by omega)
    have f2 : decide (106 ≤ op) = true := decide_eq_true (by omega)
    have f3 : decide (124 ≤ op) = true := decide_eq_true (by omega)
    have f4 : decide (op < 80) = false := decide_eq_false (by omega)
    have f5 : decide (op < 91) = false := decide_eq_false (by omega)
    have f6 : decide (op < 121) = false := decide_eq_false (by omega)
    have f7 : decide (op < 139) = false := decide_eq_false (by omega)
    clear h hop
    go_enter Tryd.func16, Tryd.ntmps16
    go_wp2_with fail
    go_ret2
    refine ⟨?_, Below.refl _ _⟩
    rw [HV.out]
    exact retE rfl rfl
end Go.Proofs.YtebikmnegemggaaDoor.Num
