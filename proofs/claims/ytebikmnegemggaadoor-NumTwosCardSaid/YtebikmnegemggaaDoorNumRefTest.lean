/-
  What the reference's test and divided of chapter 2 answer. No condition beyond what each theorem names.
-/
import Derived.Test.YtebikmnegemggaaDoorNumOnes
import Derived.Test.YtebikmnegemggaaDoorNumDivVals
namespace Go.Proofs.YtebikmnegemggaaDoor.Num
open Go.RowKit
set_option linter.unusedVariables false

theorem ord_lt {x y : Int} (h : x < y) : ord x y = -1 := by unfold ord; rw [if_pos h]
theorem ord_gt {x y : Int} (h : y < x) : ord x y = 1 := by unfold ord; rw [if_neg (by omega), if_pos h]
theorem ord_same (x : Int) : ord x x = 0 := by unfold ord; rw [if_neg (by omega), if_neg (by omega)]

set_option maxRecDepth 100000 in
set_option maxHeartbeats 1000000 in
theorem rtest32_0_lt (a b : Nat) (X Y : Int) (w : World) (ha : a < 4294967296) (hb : b < 4294967296) (hX : wrap32 (a : Int) = X) (hY : wrap32 (b : Int) = Y) (h : X < Y) (hab : a ≠ b) :
    Calls Tryd.prog 32 #[.int .i64 0, .int .u64 a, .int .u64 b, .int .i64 32] w fun e w' => e = .returned (.bool false) ∧ w = w' := by
  have HX := Lib.hid hX
  have HY := Lib.hid hY
  have f1 : decide (X < Y) = true := by simp [h]
  have f2 : ((a : Int) == (b : Int)) = false := beq_eq_false_iff_ne.2 (by omega)
  have f3 : ((a : Int) != (b : Int)) = true := bne_iff_ne.2 (by omega)
  clear hab h
  clear hX hY
  have HA := Lib.hid ha
  have HB := Lib.hid hb
  clear ha hb
  go_enter Tryd.func32, Tryd.ntmps32
  go_wp2_with fail
  refine (rsigned_32 a a _ (by have := HA.out; omega)).mono ?_
  rintro e w' ⟨rfl, rfl⟩
  rw [HX.out]
  go_wp2_with fail
  refine (rsigned_32 b b _ (by have := HB.out; omega)).mono ?_
  rintro e w' ⟨rfl, rfl⟩
  rw [HY.out]
  go_wp2_with fail
  go_ret
  exact ⟨rfl, rfl⟩

set_option maxRecDepth 100000 in
set_option maxHeartbeats 1000000 in
theorem rtest32_0_eq (a b : Nat) (X Y : Int) (w : World) (ha : a < 4294967296) (hb : b < 4294967296) (hX : wrap32 (a : Int) = X) (hY : wrap32 (b : Int) = Y) (h : ¬ X < Y) (hab : a = b) :
    Calls Tryd.prog 32 #[.int .i64 0, .int .u64 a, .int .u64 b, .int .i64 32] w fun e w' => e = .returned (.bool true) ∧ w = w' := by
  have HX := Lib.hid hX
  have HY := Lib.hid hY
  have f1 : decide (X < Y) = false := by simp [h]
  have f2 : ((a : Int) == (b : Int)) = true := by simp [hab]
  have f3 : ((a : Int) != (b : Int)) = false := by simp [hab]
  clear hab h
  clear hX hY
  have HA := Lib.hid ha
  have HB := Lib.hid hb
  clear ha hb
  go_enter Tryd.func32, Tryd.ntmps32
  go_wp2_with fail
  refine (rsigned_32 a a _ (by have := HA.out; omega)).mono ?_
  rintro e w' ⟨rfl, rfl⟩
  rw [HX.out]
  go_wp2_with fail
  refine (rsigned_32 b b _ (by have := HB.out; omega)).mono ?_
  rintro e w' ⟨rfl, rfl⟩
  rw [HY.out]
  go_wp2_with fail
  go_ret
  exact ⟨rfl, rfl⟩

set_option maxRecDepth 100000 in
set_option maxHeartbeats 1000000 in
theorem rtest32_0_gt (a b : Nat) (X Y : Int) (w : World) (ha : a < 4294967296) (hb : b < 4294967296) (hX : wrap32 (a : Int) = X) (hY : wrap32 (b : Int) = Y) (h : ¬ X < Y) (hab : a ≠ b) :
    Calls Tryd.prog 32 #[.int .i64 0, .int .u64 a, .int .u64 b, .int .i64 32] w fun e w' => e = .returned (.bool false) ∧ w = w' := by
  have HX := Lib.hid hX
  have HY := Lib.hid hY
  have f1 : decide (X < Y) = false := by simp [h]
  have f2 : ((a : Int) == (b : Int)) = false := beq_eq_false_iff_ne.2 (by omega)
  have f3 : ((a : Int) != (b : Int)) = true := bne_iff_ne.2 (by omega)
  clear hab h
  clear hX hY
  have HA := Lib.hid ha
  have HB := Lib.hid hb
  clear ha hb
  go_enter Tryd.func32, Tryd.ntmps32
  go_wp2_with fail
  refine (rsigned_32 a a _ (by have := HA.out; omega)).mono ?_
  rintro e w' ⟨rfl, rfl⟩
  rw [HX.out]
  go_wp2_with fail
  refine (rsigned_32 b b _ (by have := HB.out; omega)).mono ?_
  rintro e w' ⟨rfl, rfl⟩
  rw [HY.out]
  go_wp2_with fail
  go_ret
  exact ⟨rfl, rfl⟩

set_option maxRecDepth 100000 in
set_option maxHeartbeats 1000000 in
theorem rtest32_1_lt (a b : Nat) (X Y : Int) (w : World) (ha : a < 4294967296) (hb : b < 4294967296) (hX : wrap32 (a : Int) = X) (hY : wrap32 (b : Int) = Y) (h : a < b) :
    Calls Tryd.prog 32 #[.int .i64 1, .int .u64 a, .int .u64 b, .int .i64 32] w fun e w' => e = .returned (.bool true) ∧ w = w' := by
  have HX := Lib.hid hX
  have HY := Lib.hid hY
  have f1 : decide (a < b) = true := by simp [h]
  have f2 : ((a : Int) == (b : Int)) = false := beq_eq_false_iff_ne.2 (by omega)
  have f3 : ((a : Int) != (b : Int)) = true := bne_iff_ne.2 (by omega)
  clear h
  clear hX hY
  have HA := Lib.hid ha
  have HB := Lib.hid hb
  clear ha hb
  go_enter Tryd.func32, Tryd.ntmps32
  go_wp2_with fail
  refine (rsigned_32 a a _ (by have := HA.out; omega)).mono ?_
  rintro e w' ⟨rfl, rfl⟩
  rw [HX.out]
  go_wp2_with fail
  refine (rsigned_32 b b _ (by have := HB.out; omega)).mono ?_
  rintro e w' ⟨rfl, rfl⟩
  rw [HY.out]
  go_wp2_with fail
  go_ret
  exact ⟨rfl, rfl⟩

set_option maxRecDepth 100000 in
set_option maxHeartbeats 1000000 in
theorem rtest32_1_eq (a b : Nat) (X Y : Int) (w : World) (ha : a < 4294967296) (hb : b < 4294967296) (hX : wrap32 (a : Int) = X) (hY : wrap32 (b : Int) = Y) (h : a = b) :
    Calls Tryd.prog 32 #[.int .i64 1, .int .u64 a, .int .u64 b, .int .i64 32] w fun e w' => e = .returned (.bool false) ∧ w = w' := by
  have HX := Lib.hid hX
  have HY := Lib.hid hY
  have f1 : decide (a < b) = false := by simp [h]
  have f2 : ((a : Int) == (b : Int)) = true := by simp [h]
  have f3 : ((a : Int) != (b : Int)) = false := by simp [h]
  clear h
  clear hX hY
  have HA := Lib.hid ha
  have HB := Lib.hid hb
  clear ha hb
  go_enter Tryd.func32, Tryd.ntmps32
  go_wp2_with fail
  refine (rsigned_32 a a _ (by have := HA.out; omega)).mono ?_
  rintro e w' ⟨rfl, rfl⟩
  rw [HX.out]
  go_wp2_with fail
  refine (rsigned_32 b b _ (by have := HB.out; omega)).mono ?_
  rintro e w' ⟨rfl, rfl⟩
  rw [HY.out]
  go_wp2_with fail
  go_ret
  exact ⟨rfl, rfl⟩

set_option maxRecDepth 100000 in
set_option maxHeartbeats 1000000 in
theorem rtest32_1_gt (a b : Nat) (X Y : Int) (w : World) (ha : a < 4294967296) (hb : b < 4294967296) (hX : wrap32 (a : Int) = X) (hY : wrap32 (b : Int) = Y) (h : b < a) :
    Calls Tryd.prog 32 #[.int .i64 1, .int .u64 a, .int .u64 b, .int .i64 32] w fun e w' => e = .returned (.bool true) ∧ w = w' := by
  have HX := Lib.hid hX
  have HY := Lib.hid hY
  have f1 : decide (a < b) = false := by simp; omega
  have f2 : ((a : Int) == (b : Int)) = false := beq_eq_false_iff_ne.2 (by omega)
  have f3 : ((a : Int) != (b : Int)) = true := bne_iff_ne.2 (by omega)
  clear h
  clear hX hY
  have HA := Lib.hid ha
  have HB := Lib.hid hb
  clear ha hb
  go_enter Tryd.func32, Tryd.ntmps32
  go_wp2_with fail
  refine (rsigned_32 a a _ (by have := HA.out; omega)).mono ?_
  rintro e w' ⟨rfl, rfl⟩
  rw [HX.out]
  go_wp2_with fail
  refine (rsigned_32 b b _ (by have := HB.out; omega)).mono ?_
  rintro e w' ⟨rfl, rfl⟩
  rw [HY.out]
  go_wp2_with fail
  go_ret
  exact ⟨rfl, rfl⟩

set_option maxRecDepth 100000 in
set_option maxHeartbeats 1000000 in
theorem rtest32_2_lt (a b : Nat) (X Y : Int) (w : World) (ha : a < 4294967296) (hb : b < 4294967296) (hX : wrap32 (a : Int) = X) (hY : wrap32 (b : Int) = Y) (h : X < Y) (hab : a ≠ b) :
    Calls Tryd.prog 32 #[.int .i64 2, .int .u64 a, .int .u64 b, .int .i64 32] w fun e w' => e = .returned (.bool true) ∧ w = w' := by
  have HX := Lib.hid hX
  have HY := Lib.hid hY
  have f1 : decide (X < Y) = true := by simp [h]
  have f2 : ((a : Int) == (b : Int)) = false := beq_eq_false_iff_ne.2 (by omega)
  have f3 : ((a : Int) != (b : Int)) = true := bne_iff_ne.2 (by omega)
  clear hab h
  clear hX hY
  have HA := Lib.hid ha
  have HB := Lib.hid hb
  clear ha hb
  go_enter Tryd.func32, Tryd.ntmps32
  go_wp2_with fail
  refine (rsigned_32 a a _ (by have := HA.out; omega)).mono ?_
  rintro e w' ⟨rfl, rfl⟩
  rw [HX.out]
  go_wp2_with fail
  refine (rsigned_32 b b _ (by have := HB.out; omega)).mono ?_
  rintro e w' ⟨rfl, rfl⟩
  rw [HY.out]
  go_wp2_with fail
  go_ret
  exact ⟨rfl, rfl⟩

set_option maxRecDepth 100000 in
set_option maxHeartbeats 1000000 in
theorem rtest32_2_eq (a b : Nat) (X Y : Int) (w : World) (ha : a < 4294967296) (hb : b < 4294967296) (hX : wrap32 (a : Int) = X) (hY : wrap32 (b : Int) = Y) (h : ¬ X < Y) (hab : a = b) :
    Calls Tryd.prog 32 #[.int .i64 2, .int .u64 a, .int .u64 b, .int .i64 32] w fun e w' => e = .returned (.bool false) ∧ w = w' := by
  have HX := Lib.hid hX
  have HY := Lib.hid hY
  have f1 : decide (X < Y) = false := by simp [h]
  have f2 : ((a : Int) == (b : Int)) = true := by simp [hab]
  have f3 : ((a : Int) != (b : Int)) = false := by simp [hab]
  clear hab h
  clear hX hY
  have HA := Lib.hid ha
  have HB := Lib.hid hb
  clear ha hb
  go_enter Tryd.func32, Tryd.ntmps32
  go_wp2_with fail
  refine (rsigned_32 a a _ (by have := HA.out; omega)).mono ?_
  rintro e w' ⟨rfl, rfl⟩
  rw [HX.out]
  go_wp2_with fail
  refine (rsigned_32 b b _ (by have := HB.out; omega)).mono ?_
  rintro e w' ⟨rfl, rfl⟩
  rw [HY.out]
  go_wp2_with fail
  go_ret
  exact ⟨rfl, rfl⟩

set_option maxRecDepth 100000 in
set_option maxHeartbeats 1000000 in
theorem rtest32_2_gt (a b : Nat) (X Y : Int) (w : World) (ha : a < 4294967296) (hb : b < 4294967296) (hX : wrap32 (a : Int) = X) (hY : wrap32 (b : Int) = Y) (h : ¬ X < Y) (hab : a ≠ b) :
    Calls Tryd.prog 32 #[.int .i64 2, .int .u64 a, .int .u64 b, .int .i64 32] w fun e w' => e = .returned (.bool false) ∧ w = w' := by
  have HX := Lib.hid hX
  have HY := Lib.hid hY
  have f1 : decide (X < Y) = false := by simp [h]
  have f2 : ((a : Int) == (b : Int)) = false := beq_eq_false_iff_ne.2 (by omega)
  have f3 : ((a : Int) != (b : Int)) = true := bne_iff_ne.2 (by omega)
  clear hab h
  clear hX hY
  have HA := Lib.hid ha
  have HB := Lib.hid hb
  clear ha hb
  go_enter Tryd.func32, Tryd.ntmps32
  go_wp2_with fail
  refine (rsigned_32 a a _ (by have := HA.out; omega)).mono ?_
  rintro e w' ⟨rfl, rfl⟩
  rw [HX.out]
  go_wp2_with fail
  refine (rsigned_32 b b _ (by have := HB.out; omega)).mono ?_
  rintro e w' ⟨rfl, rfl⟩
  rw [HY.out]
  go_wp2_with fail
  go_ret
  exact ⟨rfl, rfl⟩

set_option maxRecDepth 100000 in
set_option maxHeartbeats 1000000 in
theorem rtest32_3_lt (a b : Nat) (X Y : Int) (w : World) (ha : a < 4294967296) (hb : b < 4294967296) (hX : wrap32 (a : Int) = X) (hY : wrap32 (b : Int) = Y) (h : a < b) :
    Calls Tryd.prog 32 #[.int .i64 3, .int .u64 a, .int .u64 b, .int .i64 32] w fun e w' => e = .returned (.bool true) ∧ w = w' := by
  have HX := Lib.hid hX
  have HY := Lib.hid hY
  have f1 : decide (a < b) = true := by simp [h]
  have f2 : ((a : Int) == (b : Int)) = false := beq_eq_false_iff_ne.2 (by omega)
  have f3 : ((a : Int) != (b : Int)) = true := bne_iff_ne.2 (by omega)
  clear h
  clear hX hY
  have HA := Lib.hid ha
  have HB := Lib.hid hb
  clear ha hb
  go_enter Tryd.func32, Tryd.ntmps32
  go_wp2_with fail
  refine (rsigned_32 a a _ (by have := HA.out; omega)).mono ?_
  rintro e w' ⟨rfl, rfl⟩
  rw [HX.out]
  go_wp2_with fail
  refine (rsigned_32 b b _ (by have := HB.out; omega)).mono ?_
  rintro e w' ⟨rfl, rfl⟩
  rw [HY.out]
  go_wp2_with fail
  go_ret
  exact ⟨rfl, rfl⟩

set_option maxRecDepth 100000 in
set_option maxHeartbeats 1000000 in
theorem rtest32_3_eq (a b : Nat) (X Y : Int) (w : World) (ha : a < 4294967296) (hb : b < 4294967296) (hX : wrap32 (a : Int) = X) (hY : wrap32 (b : Int) = Y) (h : a = b) :
    Calls Tryd.prog 32 #[.int .i64 3, .int .u64 a, .int .u64 b, .int .i64 32] w fun e w' => e = .returned (.bool false) ∧ w = w' := by
  have HX := Lib.hid hX
  have HY := Lib.hid hY
  have f1 : decide (a < b) = false := by simp [h]
  have f2 : ((a : Int) == (b : Int)) = true := by simp [h]
  have f3 : ((a : Int) != (b : Int)) = false := by simp [h]
  clear h
  clear hX hY
  have HA := Lib.hid ha
  have HB := Lib.hid hb
  clear ha hb
  go_enter Tryd.func32, Tryd.ntmps32
  go_wp2_with fail
  refine (rsigned_32 a a _ (by have := HA.out; omega)).mono ?_
  rintro e w' ⟨rfl, rfl⟩
  rw [HX.out]
  go_wp2_with fail
  refine (rsigned_32 b b _ (by have := HB.out; omega)).mono ?_
  rintro e w' ⟨rfl, rfl⟩
  rw [HY.out]
  go_wp2_with fail
  go_ret
  exact ⟨rfl, rfl⟩

set_option maxRecDepth 100000 in
set_option maxHeartbeats 1000000 in
theorem rtest32_3_gt (a b : Nat) (X Y : Int) (w : World) (ha : a < 4294967296) (hb : b < 4294967296) (hX : wrap32 (a : Int) = X) (hY : wrap32 (b : Int) = Y) (h : b < a) :
    Calls Tryd.prog 32 #[.int .i64 3, .int .u64 a, .int .u64 b, .int .i64 32] w fun e w' => e = .returned (.bool false) ∧ w = w' := by
  have HX := Lib.hid hX
  have HY := Lib.hid hY
  have f1 : decide (a < b) = false := by simp; omega
  have f2 : ((a : Int) == (b : Int)) = false := beq_eq_false_iff_ne.2 (by omega)
  have f3 : ((a : Int) != (b : Int)) = true := bne_iff_ne.2 (by omega)
  clear h
  clear hX hY
  have HA := Lib.hid ha
  have HB := Lib.hid hb
  clear ha hb
  go_enter Tryd.func32, Tryd.ntmps32
  go_wp2_with fail
  refine (rsigned_32 a a _ (by have := HA.out; omega)).mono ?_
  rintro e w' ⟨rfl, rfl⟩
  rw [HX.out]
  go_wp2_with fail
  refine (rsigned_32 b b _ (by have := HB.out; omega)).mono ?_
  rintro e w' ⟨rfl, rfl⟩
  rw [HY.out]
  go_wp2_with fail
  go_ret
  exact ⟨rfl, rfl⟩

set_option maxRecDepth 100000 in
set_option maxHeartbeats 1000000 in
theorem rtest32_4_lt (a b : Nat) (X Y : Int) (w : World) (ha : a < 4294967296) (hb : b < 4294967296) (hX : wrap32 (a : Int) = X) (hY : wrap32 (b : Int) = Y) (h : X < Y) (hab : a ≠ b) :
    Calls Tryd.prog 32 #[.int .i64 4, .int .u64 a, .int .u64 b, .int .i64 32] w fun e w' => e = .returned (.bool false) ∧ w = w' := by
  have HX := Lib.hid hX
  have HY := Lib.hid hY
  have f1 : decide (X < Y) = true := by simp [h]
  have f2 : ((a : Int) == (b : Int)) = false := beq_eq_false_iff_ne.2 (by omega)
  have f3 : ((a : Int) != (b : Int)) = true := bne_iff_ne.2 (by omega)
  clear hab h
  clear hX hY
  have HA := Lib.hid ha
  have HB := Lib.hid hb
  clear ha hb
  go_enter Tryd.func32, Tryd.ntmps32
  go_wp2_with fail
  refine (rsigned_32 a a _ (by have := HA.out; omega)).mono ?_
  rintro e w' ⟨rfl, rfl⟩
  rw [HX.out]
  go_wp2_with fail
  refine (rsigned_32 b b _ (by have := HB.out; omega)).mono ?_
  rintro e w' ⟨rfl, rfl⟩
  rw [HY.out]
  go_wp2_with fail
  go_ret
  exact ⟨rfl, rfl⟩

set_option maxRecDepth 100000 in
set_option maxHeartbeats 1000000 in
theorem rtest32_4_eq (a b : Nat) (X Y : Int) (w : World) (ha : a < 4294967296) (hb : b < 4294967296) (hX : wrap32 (a : Int) = X) (hY : wrap32 (b : Int) = Y) (h : ¬ X < Y) (hab : a = b) :
    Calls Tryd.prog 32 #[.int .i64 4, .int .u64 a, .int .u64 b, .int .i64 32] w fun e w' => e = .returned (.bool false) ∧ w = w' := by
  have HX := Lib.hid hX
  have HY := Lib.hid hY
  have f1 : decide (X < Y) = false := by simp [h]
  have f2 : ((a : Int) == (b : Int)) = true := by simp [hab]
  have f3 : ((a : Int) != (b : Int)) = false := by simp [hab]
  clear hab h
  clear hX hY
  have HA := Lib.hid ha
  have HB := Lib.hid hb
  clear ha hb
  go_enter Tryd.func32, Tryd.ntmps32
  go_wp2_with fail
  refine (rsigned_32 a a _ (by have := HA.out; omega)).mono ?_
  rintro e w' ⟨rfl, rfl⟩
  rw [HX.out]
  go_wp2_with fail
  refine (rsigned_32 b b _ (by have := HB.out; omega)).mono ?_
  rintro e w' ⟨rfl, rfl⟩
  rw [HY.out]
  go_wp2_with fail
  go_ret
  exact ⟨rfl, rfl⟩

set_option maxRecDepth 100000 in
set_option maxHeartbeats 1000000 in
theorem rtest32_4_gt (a b : Nat) (X Y : Int) (w : World) (ha : a < 4294967296) (hb : b < 4294967296) (hX : wrap32 (a : Int) = X) (hY : wrap32 (b : Int) = Y) (h : ¬ X < Y) (hab : a ≠ b) :
    Calls Tryd.prog 32 #[.int .i64 4, .int .u64 a, .int .u64 b, .int .i64 32] w fun e w' => e = .returned (.bool true) ∧ w = w' := by
  have HX := Lib.hid hX
  have HY := Lib.hid hY
  have f1 : decide (X < Y) = false := by simp [h]
  have f2 : ((a : Int) == (b : Int)) = false := beq_eq_false_iff_ne.2 (by omega)
  have f3 : ((a : Int) != (b : Int)) = true := bne_iff_ne.2 (by omega)
  clear hab h
  clear hX hY
  have HA := Lib.hid ha
  have HB := Lib.hid hb
  clear ha hb
  go_enter Tryd.func32, Tryd.ntmps32
  go_wp2_with fail
  refine (rsigned_32 a a _ (by have := HA.out; omega)).mono ?_
  rintro e w' ⟨rfl, rfl⟩
  rw [HX.out]
  go_wp2_with fail
  refine (rsigned_32 b b _ (by have := HB.out; omega)).mono ?_
  rintro e w' ⟨rfl, rfl⟩
  rw [HY.out]
  go_wp2_with fail
  go_ret
  exact ⟨rfl, rfl⟩

set_option maxRecDepth 100000 in
set_option maxHeartbeats 1000000 in
theorem rtest32_5_lt (a b : Nat) (X Y : Int) (w : World) (ha : a < 4294967296) (hb : b < 4294967296) (hX : wrap32 (a : Int) = X) (hY : wrap32 (b : Int) = Y) (h : a < b) :
    Calls Tryd.prog 32 #[.int .i64 5, .int .u64 a, .int .u64 b, .int .i64 32] w fun e w' => e = .returned (.bool false) ∧ w = w' := by
  have HX := Lib.hid hX
  have HY := Lib.hid hY
  have f1 : decide (a < b) = true := by simp [h]
  have f2 : ((a : Int) == (b : Int)) = false := beq_eq_false_iff_ne.2 (by omega)
  have f3 : ((a : Int) != (b : Int)) = true := bne_iff_ne.2 (by omega)
  clear h
  clear hX hY
  have HA := Lib.hid ha
  have HB := Lib.hid hb
  clear ha hb
  go_enter Tryd.func32, Tryd.ntmps32
  go_wp2_with fail
  refine (rsigned_32 a a _ (by have := HA.out; omega)).mono ?_
  rintro e w' ⟨rfl, rfl⟩
  rw [HX.out]
  go_wp2_with fail
  refine (rsigned_32 b b _ (by have := HB.out; omega)).mono ?_
  rintro e w' ⟨rfl, rfl⟩
  rw [HY.out]
  go_wp2_with fail
  go_ret
  exact ⟨rfl, rfl⟩

set_option maxRecDepth 100000 in
set_option maxHeartbeats 1000000 in
theorem rtest32_5_eq (a b : Nat) (X Y : Int) (w : World) (ha : a < 4294967296) (hb : b < 4294967296) (hX : wrap32 (a : Int) = X) (hY : wrap32 (b : Int) = Y) (h : a = b) :
    Calls Tryd.prog 32 #[.int .i64 5, .int .u64 a, .int .u64 b, .int .i64 32] w fun e w' => e = .returned (.bool false) ∧ w = w' := by
  have HX := Lib.hid hX
  have HY := Lib.hid hY
  have f1 : decide (a < b) = false := by simp [h]
  have f2 : ((a : Int) == (b : Int)) = true := by simp [h]
  have f3 : ((a : Int) != (b : Int)) = false := by simp [h]
  clear h
  clear hX hY
  have HA := Lib.hid ha
  have HB := Lib.hid hb
  clear ha hb
  go_enter Tryd.func32, Tryd.ntmps32
  go_wp2_with fail
  refine (rsigned_32 a a _ (by have := HA.out; omega)).mono ?_
  rintro e w' ⟨rfl, rfl⟩
  rw [HX.out]
  go_wp2_with fail
  refine (rsigned_32 b b _ (by have := HB.out; omega)).mono ?_
  rintro e w' ⟨rfl, rfl⟩
  rw [HY.out]
  go_wp2_with fail
  go_ret
  exact ⟨rfl, rfl⟩

set_option maxRecDepth 100000 in
set_option maxHeartbeats 1000000 in
theorem rtest32_5_gt (a b : Nat) (X Y : Int) (w : World) (ha : a < 4294967296) (hb : b < 4294967296) (hX : wrap32 (a : Int) = X) (hY : wrap32 (b : Int) = Y) (h : b < a) :
    Calls Tryd.prog 32 #[.int .i64 5, .int .u64 a, .int .u64 b, .int .i64 32] w fun e w' => e = .returned (.bool true) ∧ w = w' := by
  have HX := Lib.hid hX
  have HY := Lib.hid hY
  have f1 : decide (a < b) = false := by simp; omega
  have f2 : ((a : Int) == (b : Int)) = false := beq_eq_false_iff_ne.2 (by omega)
  have f3 : ((a : Int) != (b : Int)) = true := bne_iff_ne.2 (by omega)
  clear h
  clear hX hY
  have HA := Lib.hid ha
  have HB := Lib.hid hb
  clear ha hb
  go_enter Tryd.func32, Tryd.ntmps32
  go_wp2_with fail
  refine (rsigned_32 a a _ (by have := HA.out; omega)).mono ?_
  rintro e w' ⟨rfl, rfl⟩
  rw [HX.out]
  go_wp2_with fail
  refine (rsigned_32 b b _ (by have := HB.out; omega)).mono ?_
  rintro e w' ⟨rfl, rfl⟩
  rw [HY.out]
  go_wp2_with fail
  go_ret
  exact ⟨rfl, rfl⟩

set_option maxRecDepth 100000 in
set_option maxHeartbeats 1000000 in
theorem rtest32_6_lt (a b : Nat) (X Y : Int) (w : World) (ha : a < 4294967296) (hb : b < 4294967296) (hX : wrap32 (a : Int) = X) (hY : wrap32 (b : Int) = Y) (h : X < Y) (hab : a ≠ b) :
    Calls Tryd.prog 32 #[.int .i64 6, .int .u64 a, .int .u64 b, .int .i64 32] w fun e w' => e = .returned (.bool true) ∧ w = w' := by
  have HX := Lib.hid hX
  have HY := Lib.hid hY
  have f1 : decide (X < Y) = true := by simp [h]
  have f2 : ((a : Int) == (b : Int)) = false := beq_eq_false_iff_ne.2 (by omega)
  have f3 : ((a : Int) != (b : Int)) = true := bne_iff_ne.2 (by omega)
  clear hab h
  clear hX hY
  have HA := Lib.hid ha
  have HB := Lib.hid hb
  clear ha hb
  go_enter Tryd.func32, Tryd.ntmps32
  go_wp2_with fail
  refine (rsigned_32 a a _ (by have := HA.out; omega)).mono ?_
  rintro e w' ⟨rfl, rfl⟩
  rw [HX.out]
  go_wp2_with fail
  refine (rsigned_32 b b _ (by have := HB.out; omega)).mono ?_
  rintro e w' ⟨rfl, rfl⟩
  rw [HY.out]
  go_wp2_with fail
  go_ret
  exact ⟨rfl, rfl⟩

set_option maxRecDepth 100000 in
set_option maxHeartbeats 1000000 in
theorem rtest32_6_eq (a b : Nat) (X Y : Int) (w : World) (ha : a < 4294967296) (hb : b < 4294967296) (hX : wrap32 (a : Int) = X) (hY : wrap32 (b : Int) = Y) (h : ¬ X < Y) (hab : a = b) :
    Calls Tryd.prog 32 #[.int .i64 6, .int .u64 a, .int .u64 b, .int .i64 32] w fun e w' => e = .returned (.bool true) ∧ w = w' := by
  have HX := Lib.hid hX
  have HY := Lib.hid hY
  have f1 : decide (X < Y) = false := by simp [h]
  have f2 : ((a : Int) == (b : Int)) = true := by simp [hab]
  have f3 : ((a : Int) != (b : Int)) = false := by simp [hab]
  clear hab h
  clear hX hY
  have HA := Lib.hid ha
  have HB := Lib.hid hb
  clear ha hb
  go_enter Tryd.func32, Tryd.ntmps32
  go_wp2_with fail
  refine (rsigned_32 a a _ (by have := HA.out; omega)).mono ?_
  rintro e w' ⟨rfl, rfl⟩
  rw [HX.out]
  go_wp2_with fail
  refine (rsigned_32 b b _ (by have := HB.out; omega)).mono ?_
  rintro e w' ⟨rfl, rfl⟩
  rw [HY.out]
  go_wp2_with fail
  go_ret
  exact ⟨rfl, rfl⟩

set_option maxRecDepth 100000 in
set_option maxHeartbeats 1000000 in
theorem rtest32_6_gt (a b : Nat) (X Y : Int) (w : World) (ha : a < 4294967296) (hb : b < 4294967296) (hX : wrap32 (a : Int) = X) (hY : wrap32 (b : Int) = Y) (h : ¬ X < Y) (hab : a ≠ b) :
    Calls Tryd.prog 32 #[.int .i64 6, .int .u64 a, .int .u64 b, .int .i64 32] w fun e w' => e = .returned (.bool false) ∧ w = w' := by
  have HX := Lib.hid hX
  have HY := Lib.hid hY
  have f1 : decide (X < Y) = false := by simp [h]
  have f2 : ((a : Int) == (b : Int)) = false := beq_eq_false_iff_ne.2 (by omega)
  have f3 : ((a : Int) != (b : Int)) = true := bne_iff_ne.2 (by omega)
  clear hab h
  clear hX hY
  have HA := Lib.hid ha
  have HB := Lib.hid hb
  clear ha hb
  go_enter Tryd.func32, Tryd.ntmps32
  go_wp2_with fail
  refine (rsigned_32 a a _ (by have := HA.out; omega)).mono ?_
  rintro e w' ⟨rfl, rfl⟩
  rw [HX.out]
  go_wp2_with fail
  refine (rsigned_32 b b _ (by have := HB.out; omega)).mono ?_
  rintro e w' ⟨rfl, rfl⟩
  rw [HY.out]
  go_wp2_with fail
  go_ret
  exact ⟨rfl, rfl⟩

set_option maxRecDepth 100000 in
set_option maxHeartbeats 1000000 in
theorem rtest32_7_lt (a b : Nat) (X Y : Int) (w : World) (ha : a < 4294967296) (hb : b < 4294967296) (hX : wrap32 (a : Int) = X) (hY : wrap32 (b : Int) = Y) (h : a < b) :
    Calls Tryd.prog 32 #[.int .i64 7, .int .u64 a, .int .u64 b, .int .i64 32] w fun e w' => e = .returned (.bool true) ∧ w = w' := by
  have HX := Lib.hid hX
  have HY := Lib.hid hY
  have f1 : decide (a < b) = true := by simp [h]
  have f2 : ((a : Int) == (b : Int)) = false := beq_eq_false_iff_ne.2 (by omega)
  have f3 : ((a : Int) != (b : Int)) = true := bne_iff_ne.2 (by omega)
  clear h
  clear hX hY
  have HA := Lib.hid ha
  have HB := Lib.hid hb
  clear ha hb
  go_enter Tryd.func32, Tryd.ntmps32
  go_wp2_with fail
  refine (rsigned_32 a a _ (by have := HA.out; omega)).mono ?_
  rintro e w' ⟨rfl, rfl⟩
  rw [HX.out]
  go_wp2_with fail
  refine (rsigned_32 b b _ (by have := HB.out; omega)).mono ?_
  rintro e w' ⟨rfl, rfl⟩
  rw [HY.out]
  go_wp2_with fail
  go_ret
  exact ⟨rfl, rfl⟩

set_option maxRecDepth 100000 in
set_option maxHeartbeats 1000000 in
theorem rtest32_7_eq (a b : Nat) (X Y : Int) (w : World) (ha : a < 4294967296) (hb : b < 4294967296) (hX : wrap32 (a : Int) = X) (hY : wrap32 (b : Int) = Y) (h : a = b) :
    Calls Tryd.prog 32 #[.int .i64 7, .int .u64 a, .int .u64 b, .int .i64 32] w fun e w' => e = .returned (.bool true) ∧ w = w' := by
  have HX := Lib.hid hX
  have HY := Lib.hid hY
  have f1 : decide (a < b) = false := by simp [h]
  have f2 : ((a : Int) == (b : Int)) = true := by simp [h]
  have f3 : ((a : Int) != (b : Int)) = false := by simp [h]
  clear h
  clear hX hY
  have HA := Lib.hid ha
  have HB := Lib.hid hb
  clear ha hb
  go_enter Tryd.func32, Tryd.ntmps32
  go_wp2_with fail
  refine (rsigned_32 a a _ (by have := HA.out; omega)).mono ?_
  rintro e w' ⟨rfl, rfl⟩
  rw [HX.out]
  go_wp2_with fail
  refine (rsigned_32 b b _ (by have := HB.out; omega)).mono ?_
  rintro e w' ⟨rfl, rfl⟩
  rw [HY.out]
  go_wp2_with fail
  go_ret
  exact ⟨rfl, rfl⟩

set_option maxRecDepth 100000 in
set_option maxHeartbeats 1000000 in
theorem rtest32_7_gt (a b : Nat) (X Y : Int) (w : World) (ha : a < 4294967296) (hb : b < 4294967296) (hX : wrap32 (a : Int) = X) (hY : wrap32 (b : Int) = Y) (h : b < a) :
    Calls Tryd.prog 32 #[.int .i64 7, .int .u64 a, .int .u64 b, .int .i64 32] w fun e w' => e = .returned (.bool false) ∧ w = w' := by
  have HX := Lib.hid hX
  have HY := Lib.hid hY
  have f1 : decide (a < b) = false := by simp; omega
  have f2 : ((a : Int) == (b : Int)) = false := beq_eq_false_iff_ne.2 (by omega)
  have f3 : ((a : Int) != (b : Int)) = true := bne_iff_ne.2 (by omega)
  clear h
  clear hX hY
  have HA := Lib.hid ha
  have HB := Lib.hid hb
  clear ha hb
  go_enter Tryd.func32, Tryd.ntmps32
  go_wp2_with fail
  refine (rsigned_32 a a _ (by have := HA.out; omega)).mono ?_
  rintro e w' ⟨rfl, rfl⟩
  rw [HX.out]
  go_wp2_with fail
  refine (rsigned_32 b b _ (by have := HB.out; omega)).mono ?_
  rintro e w' ⟨rfl, rfl⟩
  rw [HY.out]
  go_wp2_with fail
  go_ret
  exact ⟨rfl, rfl⟩

set_option maxRecDepth 100000 in
set_option maxHeartbeats 1000000 in
theorem rtest32_8_lt (a b : Nat) (X Y : Int) (w : World) (ha : a < 4294967296) (hb : b < 4294967296) (hX : wrap32 (a : Int) = X) (hY : wrap32 (b : Int) = Y) (h : X < Y) (hab : a ≠ b) :
    Calls Tryd.prog 32 #[.int .i64 8, .int .u64 a, .int .u64 b, .int .i64 32] w fun e w' => e = .returned (.bool false) ∧ w = w' := by
  have HX := Lib.hid hX
  have HY := Lib.hid hY
  have f1 : decide (X < Y) = true := by simp [h]
  have f2 : ((a : Int) == (b : Int)) = false := beq_eq_false_iff_ne.2 (by omega)
  have f3 : ((a : Int) != (b : Int)) = true := bne_iff_ne.2 (by omega)
  clear hab h
  clear hX hY
  have HA := Lib.hid ha
  have HB := Lib.hid hb
  clear ha hb
  go_enter Tryd.func32, Tryd.ntmps32
  go_wp2_with fail
  refine (rsigned_32 a a _ (by have := HA.out; omega)).mono ?_
  rintro e w' ⟨rfl, rfl⟩
  rw [HX.out]
  go_wp2_with fail
  refine (rsigned_32 b b _ (by have := HB.out; omega)).mono ?_
  rintro e w' ⟨rfl, rfl⟩
  rw [HY.out]
  go_wp2_with fail
  go_ret
  exact ⟨rfl, rfl⟩

set_option maxRecDepth 100000 in
set_option maxHeartbeats 1000000 in
theorem rtest32_8_eq (a b : Nat) (X Y : Int) (w : World) (ha : a < 4294967296) (hb : b < 4294967296) (hX : wrap32 (a : Int) = X) (hY : wrap32 (b : Int) = Y) (h : ¬ X < Y) (hab : a = b) :
    Calls Tryd.prog 32 #[.int .i64 8, .int .u64 a, .int .u64 b, .int .i64 32] w fun e w' => e = .returned (.bool true) ∧ w = w' := by
  have HX := Lib.hid hX
  have HY := Lib.hid hY
  have f1 : decide (X < Y) = false := by simp [h]
  have f2 : ((a : Int) == (b : Int)) = true := by simp [hab]
  have f3 : ((a : Int) != (b : Int)) = false := by simp [hab]
  clear hab h
  clear hX hY
  have HA := Lib.hid ha
  have HB := Lib.hid hb
  clear ha hb
  go_enter Tryd.func32, Tryd.ntmps32
  go_wp2_with fail
  refine (rsigned_32 a a _ (by have := HA.out; omega)).mono ?_
  rintro e w' ⟨rfl, rfl⟩
  rw [HX.out]
  go_wp2_with fail
  refine (rsigned_32 b b _ (by have := HB.out; omega)).mono ?_
  rintro e w' ⟨rfl, rfl⟩
  rw [HY.out]
  go_wp2_with fail
  go_ret
  exact ⟨rfl, rfl⟩

set_option maxRecDepth 100000 in
set_option maxHeartbeats 1000000 in
theorem rtest32_8_gt (a b : Nat) (X Y : Int) (w : World) (ha : a < 4294967296) (hb : b < 4294967296) (hX : wrap32 (a : Int) = X) (hY : wrap32 (b : Int) = Y) (h : ¬ X < Y) (hab : a ≠ b) :
    Calls Tryd.prog 32 #[.int .i64 8, .int .u64 a, .int .u64 b, .int .i64 32] w fun e w' => e = .returned (.bool true) ∧ w = w' := by
  have HX := Lib.hid hX
  have HY := Lib.hid hY
  have f1 : decide (X < Y) = false := by simp [h]
  have f2 : ((a : Int) == (b : Int)) = false := beq_eq_false_iff_ne.2 (by omega)
  have f3 : ((a : Int) != (b : Int)) = true := bne_iff_ne.2 (by omega)
  clear hab h
  clear hX hY
  have HA := Lib.hid ha
  have HB := Lib.hid hb
  clear ha hb
  go_enter Tryd.func32, Tryd.ntmps32
  go_wp2_with fail
  refine (rsigned_32 a a _ (by have := HA.out; omega)).mono ?_
  rintro e w' ⟨rfl, rfl⟩
  rw [HX.out]
  go_wp2_with fail
  refine (rsigned_32 b b _ (by have := HB.out; omega)).mono ?_
  rintro e w' ⟨rfl, rfl⟩
  rw [HY.out]
  go_wp2_with fail
  go_ret
  exact ⟨rfl, rfl⟩

set_option maxRecDepth 100000 in
set_option maxHeartbeats 1000000 in
theorem rtest32_9_lt (a b : Nat) (X Y : Int) (w : World) (ha : a < 4294967296) (hb : b < 4294967296) (hX : wrap32 (a : Int) = X) (hY : wrap32 (b : Int) = Y) (h : a < b) :
    Calls Tryd.prog 32 #[.int .i64 9, .int .u64 a, .int .u64 b, .int .i64 32] w fun e w' => e = .returned (.bool false) ∧ w = w' := by
  have HX := Lib.hid hX
  have HY := Lib.hid hY
  have f1 : decide (a < b) = true := by simp [h]
  have f2 : ((a : Int) == (b : Int)) = false := beq_eq_false_iff_ne.2 (by omega)
  have f3 : ((a : Int) != (b : Int)) = true := bne_iff_ne.2 (by omega)
  clear h
  clear hX hY
  have HA := Lib.hid ha
  have HB := Lib.hid hb
  clear ha hb
  go_enter Tryd.func32, Tryd.ntmps32
  go_wp2_with fail
  refine (rsigned_32 a a _ (by have := HA.out; omega)).mono ?_
  rintro e w' ⟨rfl, rfl⟩
  rw [HX.out]
  go_wp2_with fail
  refine (rsigned_32 b b _ (by have := HB.out; omega)).mono ?_
  rintro e w' ⟨rfl, rfl⟩
  rw [HY.out]
  go_wp2_with fail
  go_ret
  exact ⟨rfl, rfl⟩

set_option maxRecDepth 100000 in
set_option maxHeartbeats 1000000 in
theorem rtest32_9_eq (a b : Nat) (X Y : Int) (w : World) (ha : a < 4294967296) (hb : b < 4294967296) (hX : wrap32 (a : Int) = X) (hY : wrap32 (b : Int) = Y) (h : a = b) :
    Calls Tryd.prog 32 #[.int .i64 9, .int .u64 a, .int .u64 b, .int .i64 32] w fun e w' => e = .returned (.bool true) ∧ w = w' := by
  have HX := Lib.hid hX
  have HY := Lib.hid hY
  have f1 : decide (a < b) = false := by simp [h]
  have f2 : ((a : Int) == (b : Int)) = true := by simp [h]
  have f3 : ((a : Int) != (b : Int)) = false := by simp [h]
  clear h
  clear hX hY
  have HA := Lib.hid ha
  have HB := Lib.hid hb
  clear ha hb
  go_enter Tryd.func32, Tryd.ntmps32
  go_wp2_with fail
  refine (rsigned_32 a a _ (by have := HA.out; omega)).mono ?_
  rintro e w' ⟨rfl, rfl⟩
  rw [HX.out]
  go_wp2_with fail
  refine (rsigned_32 b b _ (by have := HB.out; omega)).mono ?_
  rintro e w' ⟨rfl, rfl⟩
  rw [HY.out]
  go_wp2_with fail
  go_ret
  exact ⟨rfl, rfl⟩

set_option maxRecDepth 100000 in
set_option maxHeartbeats 1000000 in
theorem rtest32_9_gt (a b : Nat) (X Y : Int) (w : World) (ha : a < 4294967296) (hb : b < 4294967296) (hX : wrap32 (a : Int) = X) (hY : wrap32 (b : Int) = Y) (h : b < a) :
    Calls Tryd.prog 32 #[.int .i64 9, .int .u64 a, .int .u64 b, .int .i64 32] w fun e w' => e = .returned (.bool true) ∧ w = w' := by
  have HX := Lib.hid hX
  have HY := Lib.hid hY
  have f1 : decide (a < b) = false := by simp; omega
  have f2 : ((a : Int) == (b : Int)) = false := beq_eq_false_iff_ne.2 (by omega)
  have f3 : ((a : Int) != (b : Int)) = true := bne_iff_ne.2 (by omega)
  clear h
  clear hX hY
  have HA := Lib.hid ha
  have HB := Lib.hid hb
  clear ha hb
  go_enter Tryd.func32, Tryd.ntmps32
  go_wp2_with fail
  refine (rsigned_32 a a _ (by have := HA.out; omega)).mono ?_
  rintro e w' ⟨rfl, rfl⟩
  rw [HX.out]
  go_wp2_with fail
  refine (rsigned_32 b b _ (by have := HB.out; omega)).mono ?_
  rintro e w' ⟨rfl, rfl⟩
  rw [HY.out]
  go_wp2_with fail
  go_ret
  exact ⟨rfl, rfl⟩

theorem rtest32_any (k : Nat) (hk : k < 10) (a b : Nat) (w : World) (ha : a < 4294967296) (hb : b < 4294967296) :
    Calls Tryd.prog 32 #[.int .i64 k, .int .u64 a, .int .u64 b, .int .i64 32] w fun e w' => e = .returned (.bool (testB k (ord (wrap32 (a : Int)) (wrap32 (b : Int))) (ord (a : Int) (b : Int)))) ∧ w = w' := by
  have hab : a = b ∨ a ≠ b := by omega
  have hww : wrap32 (a : Int) = wrap32 (b : Int) → a = b := by unfold wrap32; omega
  rcases (show k = 0 ∨ k = 1 ∨ k = 2 ∨ k = 3 ∨ k = 4 ∨ k = 5 ∨ k = 6 ∨ k = 7 ∨ k = 8 ∨ k = 9 by omega) with rfl | rfl | rfl | rfl | rfl | rfl | rfl | rfl | rfl | rfl
  · rcases (show wrap32 (a : Int) < wrap32 (b : Int) ∨ (¬ wrap32 (a : Int) < wrap32 (b : Int) ∧ a = b) ∨ (wrap32 (b : Int) < wrap32 (a : Int) ∧ a ≠ b) by rcases hab with h | h; exact .inr (.inl ⟨by rw [h]; omega, h⟩); by_cases h2 : wrap32 (a : Int) < wrap32 (b : Int); exact .inl h2; exact .inr (.inr ⟨by have := fun e => h (hww e); omega, h⟩)) with h | ⟨h, h2⟩ | ⟨h, h2⟩
    · rw [ord_lt h]
      exact rtest32_0_lt a b _ _ w ha hb rfl rfl h (by rintro rfl; omega)
    · subst h2
      rw [ord_same, ord_same]
      exact rtest32_0_eq a a _ _ w ha hb rfl rfl h rfl
    · rw [ord_gt h]
      exact rtest32_0_gt a b _ _ w ha hb rfl rfl (by omega) h2
  · rcases Nat.lt_trichotomy a b with h | h | h
    · rw [ord_lt (show (a : Int) < (b : Int) by omega)]
      exact rtest32_1_lt a b _ _ w ha hb rfl rfl h
    · subst h
      rw [ord_same, ord_same]
      exact rtest32_1_eq a a _ _ w ha hb rfl rfl rfl
    · rw [ord_gt (show (b : Int) < (a : Int) by omega)]
      exact rtest32_1_gt a b _ _ w ha hb rfl rfl h
  · rcases (show wrap32 (a : Int) < wrap32 (b : Int) ∨ (¬ wrap32 (a : Int) < wrap32 (b : Int) ∧ a = b) ∨ (wrap32 (b : Int) < wrap32 (a : Int) ∧ a ≠ b) by rcases hab with h | h; exact .inr (.inl ⟨by rw [h]; omega, h⟩); by_cases h2 : wrap32 (a : Int) < wrap32 (b : Int); exact .inl h2; exact .inr (.inr ⟨by have := fun e => h (hww e); omega, h⟩)) with h | ⟨h, h2⟩ | ⟨h, h2⟩
    · rw [ord_lt h]
      exact rtest32_2_lt a b _ _ w ha hb rfl rfl h (by rintro rfl; omega)
    · subst h2
      rw [ord_same, ord_same]
      exact rtest32_2_eq a a _ _ w ha hb rfl rfl h rfl
    · rw [ord_gt h]
      exact rtest32_2_gt a b _ _ w ha hb rfl rfl (by omega) h2
  · rcases Nat.lt_trichotomy a b with h | h | h
    · rw [ord_lt (show (a : Int) < (b : Int) by omega)]
      exact rtest32_3_lt a b _ _ w ha hb rfl rfl h
    · subst h
      rw [ord_same, ord_same]
      exact rtest32_3_eq a a _ _ w ha hb rfl rfl rfl
    · rw [ord_gt (show (b : Int) < (a : Int) by omega)]
      exact rtest32_3_gt a b _ _ w ha hb rfl rfl h
  · rcases (show wrap32 (a : Int) < wrap32 (b : Int) ∨ (¬ wrap32 (a : Int) < wrap32 (b : Int) ∧ a = b) ∨ (wrap32 (b : Int) < wrap32 (a : Int) ∧ a ≠ b) by rcases hab with h | h; exact .inr (.inl ⟨by rw [h]; omega, h⟩); by_cases h2 : wrap32 (a : Int) < wrap32 (b : Int); exact .inl h2; exact .inr (.inr ⟨by have := fun e => h (hww e); omega, h⟩)) with h | ⟨h, h2⟩ | ⟨h, h2⟩
    · rw [ord_lt h]
      exact rtest32_4_lt a b _ _ w ha hb rfl rfl h (by rintro rfl; omega)
    · subst h2
      rw [ord_same, ord_same]
      exact rtest32_4_eq a a _ _ w ha hb rfl rfl h rfl
    · rw [ord_gt h]
      exact rtest32_4_gt a b _ _ w ha hb rfl rfl (by omega) h2
  · rcases Nat.lt_trichotomy a b with h | h | h
    · rw [ord_lt (show (a : Int) < (b : Int) by omega)]
      exact rtest32_5_lt a b _ _ w ha hb rfl rfl h
    · subst h
      rw [ord_same, ord_same]
      exact rtest32_5_eq a a _ _ w ha hb rfl rfl rfl
    · rw [ord_gt (show (b : Int) < (a : Int) by omega)]
      exact rtest32_5_gt a b _ _ w ha hb rfl rfl h
  · rcases (show wrap32 (a : Int) < wrap32 (b : Int) ∨ (¬ wrap32 (a : Int) < wrap32 (b : Int) ∧ a = b) ∨ (wrap32 (b : Int) < wrap32 (a : Int) ∧ a ≠ b) by rcases hab with h | h; exact .inr (.inl ⟨by rw [h]; omega, h⟩); by_cases h2 : wrap32 (a : Int) < wrap32 (b : Int); exact .inl h2; exact .inr (.inr ⟨by have := fun e => h (hww e); omega, h⟩)) with h | ⟨h, h2⟩ | ⟨h, h2⟩
    · rw [ord_lt h]
      exact rtest32_6_lt a b _ _ w ha hb rfl rfl h (by rintro rfl; omega)
    · subst h2
      rw [ord_same, ord_same]
      exact rtest32_6_eq a a _ _ w ha hb rfl rfl h rfl
    · rw [ord_gt h]
      exact rtest32_6_gt a b _ _ w ha hb rfl rfl (by omega) h2
  · rcases Nat.lt_trichotomy a b with h | h | h
    · rw [ord_lt (show (a : Int) < (b : Int) by omega)]
      exact rtest32_7_lt a b _ _ w ha hb rfl rfl h
    · subst h
      rw [ord_same, ord_same]
      exact rtest32_7_eq a a _ _ w ha hb rfl rfl rfl
    · rw [ord_gt (show (b : Int) < (a : Int) by omega)]
      exact rtest32_7_gt a b _ _ w ha hb rfl rfl h
  · rcases (show wrap32 (a : Int) < wrap32 (b : Int) ∨ (¬ wrap32 (a : Int) < wrap32 (b : Int) ∧ a = b) ∨ (wrap32 (b : Int) < wrap32 (a : Int) ∧ a ≠ b) by rcases hab with h | h; exact .inr (.inl ⟨by rw [h]; omega, h⟩); by_cases h2 : wrap32 (a : Int) < wrap32 (b : Int); exact .inl h2; exact .inr (.inr ⟨by have := fun e => h (hww e); omega, h⟩)) with h | ⟨h, h2⟩ | ⟨h, h2⟩
    · rw [ord_lt h]
      exact rtest32_8_lt a b _ _ w ha hb rfl rfl h (by rintro rfl; omega)
    · subst h2
      rw [ord_same, ord_same]
      exact rtest32_8_eq a a _ _ w ha hb rfl rfl h rfl
    · rw [ord_gt h]
      exact rtest32_8_gt a b _ _ w ha hb rfl rfl (by omega) h2
  · rcases Nat.lt_trichotomy a b with h | h | h
    · rw [ord_lt (show (a : Int) < (b : Int) by omega)]
      exact rtest32_9_lt a b _ _ w ha hb rfl rfl h
    · subst h
      rw [ord_same, ord_same]
      exact rtest32_9_eq a a _ _ w ha hb rfl rfl rfl
    · rw [ord_gt (show (b : Int) < (a : Int) by omega)]
      exact rtest32_9_gt a b _ _ w ha hb rfl rfl h

set_option maxRecDepth 100000 in
set_option maxHeartbeats 1000000 in
theorem rtest64_0_lt (a b : Nat) (X Y : Int) (w : World) (hX : wrap64 (a : Int) = X) (hY : wrap64 (b : Int) = Y) (h : X < Y) (hab : a ≠ b) :
    Calls Tryd.prog 32 #[.int .i64 0, .int .u64 a, .int .u64 b, .int .i64 64] w fun e w' => e = .returned (.bool false) ∧ w = w' := by
  have HX := Lib.hid hX
  have HY := Lib.hid hY
  have f1 : decide (X < Y) = true := by simp [h]
  have f2 : ((a : Int) == (b : Int)) = false := beq_eq_false_iff_ne.2 (by omega)
  have f3 : ((a : Int) != (b : Int)) = true := bne_iff_ne.2 (by omega)
  clear hab h
  clear hX hY
  go_enter Tryd.func32, Tryd.ntmps32
  go_wp2_with fail
  refine (rsigned_64 _ _).mono ?_
  rintro e w' ⟨rfl, rfl⟩
  rw [HX.out]
  go_wp2_with fail
  refine (rsigned_64 _ _).mono ?_
  rintro e w' ⟨rfl, rfl⟩
  rw [HY.out]
  go_wp2_with fail
  go_ret
  exact ⟨rfl, rfl⟩

set_option maxRecDepth 100000 in
set_option maxHeartbeats 1000000 in
theorem rtest64_0_eq (a b : Nat) (X Y : Int) (w : World) (hX : wrap64 (a : Int) = X) (hY : wrap64 (b : Int) = Y) (h : ¬ X < Y) (hab : a = b) :
    Calls Tryd.prog 32 #[.int .i64 0, .int .u64 a, .int .u64 b, .int .i64 64] w fun e w' => e = .returned (.bool true) ∧ w = w' := by
  have HX := Lib.hid hX
  have HY := Lib.hid hY
  have f1 : decide (X < Y) = false := by simp [h]
  have f2 : ((a : Int) == (b : Int)) = true := by simp [hab]
  have f3 : ((a : Int) != (b : Int)) = false := by simp [hab]
  clear hab h
  clear hX hY
  go_enter Tryd.func32, Tryd.ntmps32
  go_wp2_with fail
  refine (rsigned_64 _ _).mono ?_
  rintro e w' ⟨rfl, rfl⟩
  rw [HX.out]
  go_wp2_with fail
  refine (rsigned_64 _ _).mono ?_
  rintro e w' ⟨rfl, rfl⟩
  rw [HY.out]
  go_wp2_with fail
  go_ret
  exact ⟨rfl, rfl⟩

set_option maxRecDepth 100000 in
set_option maxHeartbeats 1000000 in
theorem rtest64_0_gt (a b : Nat) (X Y : Int) (w : World) (hX : wrap64 (a : Int) = X) (hY : wrap64 (b : Int) = Y) (h : ¬ X < Y) (hab : a ≠ b) :
    Calls Tryd.prog 32 #[.int .i64 0, .int .u64 a, .int .u64 b, .int .i64 64] w fun e w' => e = .returned (.bool false) ∧ w = w' := by
  have HX := Lib.hid hX
  have HY := Lib.hid hY
  have f1 : decide (X < Y) = false := by simp [h]
  have f2 : ((a : Int) == (b : Int)) = false := beq_eq_false_iff_ne.2 (by omega)
  have f3 : ((a : Int) != (b : Int)) = true := bne_iff_ne.2 (by omega)
  clear hab h
  clear hX hY
  go_enter Tryd.func32, Tryd.ntmps32
  go_wp2_with fail
  refine (rsigned_64 _ _).mono ?_
  rintro e w' ⟨rfl, rfl⟩
  rw [HX.out]
  go_wp2_with fail
  refine (rsigned_64 _ _).mono ?_
  rintro e w' ⟨rfl, rfl⟩
  rw [HY.out]
  go_wp2_with fail
  go_ret
  exact ⟨rfl, rfl⟩

set_option maxRecDepth 100000 in
set_option maxHeartbeats 1000000 in
theorem rtest64_1_lt (a b : Nat) (X Y : Int) (w : World) (hX : wrap64 (a : Int) = X) (hY : wrap64 (b : Int) = Y) (h : a < b) :
    Calls Tryd.prog 32 #[.int .i64 1, .int .u64 a, .int .u64 b, .int .i64 64] w fun e w' => e = .returned (.bool true) ∧ w = w' := by
  have HX := Lib.hid hX
  have HY := Lib.hid hY
  have f1 : decide (a < b) = true := by simp [h]
  have f2 : ((a : Int) == (b : Int)) = false := beq_eq_false_iff_ne.2 (by omega)
  have f3 : ((a : Int) != (b : Int)) = true := bne_iff_ne.2 (by omega)
  clear h
  clear hX hY
  go_enter Tryd.func32, Tryd.ntmps32
  go_wp2_with fail
  refine (rsigned_64 _ _).mono ?_
  rintro e w' ⟨rfl, rfl⟩
  rw [HX.out]
  go_wp2_with fail
  refine (rsigned_64 _ _).mono ?_
  rintro e w' ⟨rfl, rfl⟩
  rw [HY.out]
  go_wp2_with fail
  go_ret
  exact ⟨rfl, rfl⟩

set_option maxRecDepth 100000 in
set_option maxHeartbeats 1000000 in
theorem rtest64_1_eq (a b : Nat) (X Y : Int) (w : World) (hX : wrap64 (a : Int) = X) (hY : wrap64 (b : Int) = Y) (h : a = b) :
    Calls Tryd.prog 32 #[.int .i64 1, .int .u64 a, .int .u64 b, .int .i64 64] w fun e w' => e = .returned (.bool false) ∧ w = w' := by
  have HX := Lib.hid hX
  have HY := Lib.hid hY
  have f1 : decide (a < b) = false := by simp [h]
  have f2 : ((a : Int) == (b : Int)) = true := by simp [h]
  have f3 : ((a : Int) != (b : Int)) = false := by simp [h]
  clear h
  clear hX hY
  go_enter Tryd.func32, Tryd.ntmps32
  go_wp2_with fail
  refine (rsigned_64 _ _).mono ?_
  rintro e w' ⟨rfl, rfl⟩
  rw [HX.out]
  go_wp2_with fail
  refine (rsigned_64 _ _).mono ?_
  rintro e w' ⟨rfl, rfl⟩
  rw [HY.out]
  go_wp2_with fail
  go_ret
  exact ⟨rfl, rfl⟩

set_option maxRecDepth 100000 in
set_option maxHeartbeats 1000000 in
theorem rtest64_1_gt (a b : Nat) (X Y : Int) (w : World) (hX : wrap64 (a : Int) = X) (hY : wrap64 (b : Int) = Y) (h : b < a) :
    Calls Tryd.prog 32 #[.int .i64 1, .int .u64 a, .int .u64 b, .int .i64 64] w fun e w' => e = .returned (.bool true) ∧ w = w' := by
  have HX := Lib.hid hX
  have HY := Lib.hid hY
  have f1 : decide (a < b) = false := by simp; omega
  have f2 : ((a : Int) == (b : Int)) = false := beq_eq_false_iff_ne.2 (by omega)
  have f3 : ((a : Int) != (b : Int)) = true := bne_iff_ne.2 (by omega)
  clear h
  clear hX hY
  go_enter Tryd.func32, Tryd.ntmps32
  go_wp2_with fail
  refine (rsigned_64 _ _).mono ?_
  rintro e w' ⟨rfl, rfl⟩
  rw [HX.out]
  go_wp2_with fail
  refine (rsigned_64 _ _).mono ?_
  rintro e w' ⟨rfl, rfl⟩
  rw [HY.out]
  go_wp2_with fail
  go_ret
  exact ⟨rfl, rfl⟩

set_option maxRecDepth 100000 in
set_option maxHeartbeats 1000000 in
theorem rtest64_2_lt (a b : Nat) (X Y : Int) (w : World) (hX : wrap64 (a : Int) = X) (hY : wrap64 (b : Int) = Y) (h : X < Y) (hab : a ≠ b) :
    Calls Tryd.prog 32 #[.int .i64 2, .int .u64 a, .int .u64 b, .int .i64 64] w fun e w' => e = .returned (.bool true) ∧ w = w' := by
  have HX := Lib.hid hX
  have HY := Lib.hid hY
  have f1 : decide (X < Y) = true := by simp [h]
  have f2 : ((a : Int) == (b : Int)) = false := beq_eq_false_iff_ne.2 (by omega)
  have f3 : ((a : Int) != (b : Int)) = true := bne_iff_ne.2 (by omega)
  clear hab h
  clear hX hY
  go_enter Tryd.func32, Tryd.ntmps32
  go_wp2_with fail
  refine (rsigned_64 _ _).mono ?_
  rintro e w' ⟨rfl, rfl⟩
  rw [HX.out]
  go_wp2_with fail
  refine (rsigned_64 _ _).mono ?_
  rintro e w' ⟨rfl, rfl⟩
  rw [HY.out]
  go_wp2_with fail
  go_ret
  exact ⟨rfl, rfl⟩

set_option maxRecDepth 100000 in
set_option maxHeartbeats 1000000 in
theorem rtest64_2_eq (a b : Nat) (X Y : Int) (w : World) (hX : wrap64 (a : Int) = X) (hY : wrap64 (b : Int) = Y) (h : ¬ X < Y) (hab : a = b) :
    Calls Tryd.prog 32 #[.int .i64 2, .int .u64 a, .int .u64 b, .int .i64 64] w fun e w' => e = .returned (.bool false) ∧ w = w' := by
  have HX := Lib.hid hX
  have HY := Lib.hid hY
  have f1 : decide (X < Y) = false := by simp [h]
  have f2 : ((a : Int) == (b : Int)) = true := by simp [hab]
  have f3 : ((a : Int) != (b : Int)) = false := by simp [hab]
  clear hab h
  clear hX hY
  go_enter Tryd.func32, Tryd.ntmps32
  go_wp2_with fail
  refine (rsigned_64 _ _).mono ?_
  rintro e w' ⟨rfl, rfl⟩
  rw [HX.out]
  go_wp2_with fail
  refine (rsigned_64 _ _).mono ?_
  rintro e w' ⟨rfl, rfl⟩
  rw [HY.out]
  go_wp2_with fail
  go_ret
  exact ⟨rfl, rfl⟩

set_option maxRecDepth 100000 in
set_option maxHeartbeats 1000000 in
theorem rtest64_2_gt (a b : Nat) (X Y : Int) (w : World) (hX : wrap64 (a : Int) = X) (hY : wrap64 (b : Int) = Y) (h : ¬ X < Y) (hab : a ≠ b) :
    Calls Tryd.prog 32 #[.int .i64 2, .int .u64 a, .int .u64 b, .int .i64 64] w fun e w' => e = .returned (.bool false) ∧ w = w' := by
  have HX := Lib.hid hX
  have HY := Lib.hid hY
  have f1 : decide (X < Y) = false := by simp [h]
  have f2 : ((a : Int) == (b : Int)) = false := beq_eq_false_iff_ne.2 (by omega)
  have f3 : ((a : Int) != (b : Int)) = true := bne_iff_ne.2 (by omega)
  clear hab h
  clear hX hY
  go_enter Tryd.func32, Tryd.ntmps32
  go_wp2_with fail
  refine (rsigned_64 _ _).mono ?_
  rintro e w' ⟨rfl, rfl⟩
  rw [HX.out]
  go_wp2_with fail
  refine (rsigned_64 _ _).mono ?_
  rintro e w' ⟨rfl, rfl⟩
  rw [HY.out]
  go_wp2_with fail
  go_ret
  exact ⟨rfl, rfl⟩

set_option maxRecDepth 100000 in
set_option maxHeartbeats 1000000 in
theorem rtest64_3_lt (a b : Nat) (X Y : Int) (w : World) (hX : wrap64 (a : Int) = X) (hY : wrap64 (b : Int) = Y) (h : a < b) :
    Calls Tryd.prog 32 #[.int .i64 3, .int .u64 a, .int .u64 b, .int .i64 64] w fun e w' => e = .returned (.bool true) ∧ w = w' := by
  have HX := Lib.hid hX
  have HY := Lib.hid hY
  have f1 : decide (a < b) = true := by simp [h]
  have f2 : ((a : Int) == (b : Int)) = false := beq_eq_false_iff_ne.2 (by omega)
  have f3 : ((a : Int) != (b : Int)) = true := bne_iff_ne.2 (by omega)
  clear h
  clear hX hY
  go_enter Tryd.func32, Tryd.ntmps32
  go_wp2_with fail
  refine (rsigned_64 _ _).mono ?_
  rintro e w' ⟨rfl, rfl⟩
  rw [HX.out]
  go_wp2_with fail
  refine (rsigned_64 _ _).mono ?_
  rintro e w' ⟨rfl, rfl⟩
  rw [HY.out]
  go_wp2_with fail
  go_ret
  exact ⟨rfl, rfl⟩

set_option maxRecDepth 100000 in
set_option maxHeartbeats 1000000 in
theorem rtest64_3_eq (a b : Nat) (X Y : Int) (w : World) (hX : wrap64 (a : Int) = X) (hY : wrap64 (b : Int) = Y) (h : a = b) :
    Calls Tryd.prog 32 #[.int .i64 3, .int .u64 a, .int .u64 b, .int .i64 64] w fun e w' => e = .returned (.bool false) ∧ w = w' := by
  have HX := Lib.hid hX
  have HY := Lib.hid hY
  have f1 : decide (a < b) = false := by simp [h]
  have f2 : ((a : Int) == (b : Int)) = true := by simp [h]
  have f3 : ((a : Int) != (b : Int)) = false := by simp [h]
  clear h
  clear hX hY
  go_enter Tryd.func32, Tryd.ntmps32
  go_wp2_with fail
  refine (rsigned_64 _ _).mono ?_
  rintro e w' ⟨rfl, rfl⟩
  rw [HX.out]
  go_wp2_with fail
  refine (rsigned_64 _ _).mono ?_
  rintro e w' ⟨rfl, rfl⟩
  rw [HY.out]
  go_wp2_with fail
  go_ret
  exact ⟨rfl, rfl⟩

set_option maxRecDepth 100000 in
set_option maxHeartbeats 1000000 in
theorem rtest64_3_gt (a b : Nat) (X Y : Int) (w : World) (hX : wrap64 (a : Int) = X) (hY : wrap64 (b : Int) = Y) (h : b < a) :
    Calls Tryd.prog 32 #[.int .i64 3, .int .u64 a, .int .u64 b, .int .i64 64] w fun e w' => e = .returned (.bool false) ∧ w = w' := by
  have HX := Lib.hid hX
  have HY := Lib.hid hY
  have f1 : decide (a < b) = false := by simp; omega
  have f2 : ((a : Int) == (b : Int)) = false := beq_eq_false_iff_ne.2 (by omega)
  have f3 : ((a : Int) != (b : Int)) = true := bne_iff_ne.2 (by omega)
  clear h
  clear hX hY
  go_enter Tryd.func32, Tryd.ntmps32
  go_wp2_with fail
  refine (rsigned_64 _ _).mono ?_
  rintro e w' ⟨rfl, rfl⟩
  rw [HX.out]
  go_wp2_with fail
  refine (rsigned_64 _ _).mono ?_
  rintro e w' ⟨rfl, rfl⟩
  rw [HY.out]
  go_wp2_with fail
  go_ret
  exact ⟨rfl, rfl⟩

set_option maxRecDepth 100000 in
set_option maxHeartbeats 1000000 in
theorem rtest64_4_lt (a b : Nat) (X Y : Int) (w : World) (hX : wrap64 (a : Int) = X) (hY : wrap64 (b : Int) = Y) (h : X < Y) (hab : a ≠ b) :
    Calls Tryd.prog 32 #[.int .i64 4, .int .u64 a, .int .u64 b, .int .i64 64] w fun e w' => e = .returned (.bool false) ∧ w = w' := by
  have HX := Lib.hid hX
  have HY := Lib.hid hY
  have f1 : decide (X < Y) = true := by simp [h]
  have f2 : ((a : Int) == (b : Int)) = false := beq_eq_false_iff_ne.2 (by omega)
  have f3 : ((a : Int) != (b : Int)) = true := bne_iff_ne.2 (by omega)
  clear hab h
  clear hX hY
  go_enter Tryd.func32, Tryd.ntmps32
  go_wp2_with fail
  refine (rsigned_64 _ _).mono ?_
  rintro e w' ⟨rfl, rfl⟩
  rw [HX.out]
  go_wp2_with fail
  refine (rsigned_64 _ _).mono ?_
  rintro e w' ⟨rfl, rfl⟩
  rw [HY.out]
  go_wp2_with fail
  go_ret
  exact ⟨rfl, rfl⟩

set_option maxRecDepth 100000 in
set_option maxHeartbeats 1000000 in
theorem rtest64_4_eq (a b : Nat) (X Y : Int) (w : World) (hX : wrap64 (a : Int) = X) (hY : wrap64 (b : Int) = Y) (h : ¬ X < Y) (hab : a = b) :
    Calls Tryd.prog 32 #[.int .i64 4, .int .u64 a, .int .u64 b, .int .i64 64] w fun e w' => e = .returned (.bool false) ∧ w = w' := by
  have HX := Lib.hid hX
  have HY := Lib.hid hY
  have f1 : decide (X < Y) = false := by simp [h]
  have f2 : ((a : Int) == (b : Int)) = true := by simp [hab]
  have f3 : ((a : Int) != (b : Int)) = false := by simp [hab]
  clear hab h
  clear hX hY
  go_enter Tryd.func32, Tryd.ntmps32
  go_wp2_with fail
  refine (rsigned_64 _ _).mono ?_
  rintro e w' ⟨rfl, rfl⟩
  rw [HX.out]
  go_wp2_with fail
  refine (rsigned_64 _ _).mono ?_
  rintro e w' ⟨rfl, rfl⟩
  rw [HY.out]
  go_wp2_with fail
  go_ret
  exact ⟨rfl, rfl⟩

set_option maxRecDepth 100000 in
set_option maxHeartbeats 1000000 in
theorem rtest64_4_gt (a b : Nat) (X Y : Int) (w : World) (hX : wrap64 (a : Int) = X) (hY : wrap64 (b : Int) = Y) (h : ¬ X < Y) (hab : a ≠ b) :
    Calls Tryd.prog 32 #[.int .i64 4, .int .u64 a, .int .u64 b, .int .i64 64] w fun e w' => e = .returned (.bool true) ∧ w = w' := by
  have HX := Lib.hid hX
  have HY := Lib.hid hY
  have f1 : decide (X < Y) = false := by simp [h]
  have f2 : ((a : Int) == (b : Int)) = false := beq_eq_false_iff_ne.2 (by omega)
  have f3 : ((a : Int) != (b : Int)) = true := bne_iff_ne.2 (by omega)
  clear hab h
  clear hX hY
  go_enter Tryd.func32, Tryd.ntmps32
  go_wp2_with fail
  refine (rsigned_64 _ _).mono ?_
  rintro e w' ⟨rfl, rfl⟩
  rw [HX.out]
  go_wp2_with fail
  refine (rsigned_64 _ _).mono ?_
  rintro e w' ⟨rfl, rfl⟩
  rw [HY.out]
  go_wp2_with fail
  go_ret
  exact ⟨rfl, rfl⟩

set_option maxRecDepth 100000 in
set_option maxHeartbeats 1000000 in
theorem rtest64_5_lt (a b : Nat) (X Y : Int) (w : World) (hX : wrap64 (a : Int) = X) (hY : wrap64 (b : Int) = Y) (h : a < b) :
    Calls Tryd.prog 32 #[.int .i64 5, .int .u64 a, .int .u64 b, .int .i64 64] w fun e w' => e = .returned (.bool false) ∧ w = w' := by
  have HX := Lib.hid hX
  have HY := Lib.hid hY
  have f1 : decide (a < b) = true := by simp [h]
  have f2 : ((a : Int) == (b : Int)) = false := beq_eq_false_iff_ne.2 (by omega)
  have f3 : ((a : Int) != (b : Int)) = true := bne_iff_ne.2 (by omega)
  clear h
  clear hX hY
  go_enter Tryd.func32, Tryd.ntmps32
  go_wp2_with fail
  refine (rsigned_64 _ _).mono ?_
  rintro e w' ⟨rfl, rfl⟩
  rw [HX.out]
  go_wp2_with fail
  refine (rsigned_64 _ _).mono ?_
  rintro e w' ⟨rfl, rfl⟩
  rw [HY.out]
  go_wp2_with fail
  go_ret
  exact ⟨rfl, rfl⟩

set_option maxRecDepth 100000 in
set_option maxHeartbeats 1000000 in
theorem rtest64_5_eq (a b : Nat) (X Y : Int) (w : World) (hX : wrap64 (a : Int) = X) (hY : wrap64 (b : Int) = Y) (h : a = b) :
    Calls Tryd.prog 32 #[.int .i64 5, .int .u64 a, .int .u64 b, .int .i64 64] w fun e w' => e = .returned (.bool false) ∧ w = w' := by
  have HX := Lib.hid hX
  have HY := Lib.hid hY
  have f1 : decide (a < b) = false := by simp [h]
  have f2 : ((a : Int) == (b : Int)) = true := by simp [h]
  have f3 : ((a : Int) != (b : Int)) = false := by simp [h]
  clear h
  clear hX hY
  go_enter Tryd.func32, Tryd.ntmps32
  go_wp2_with fail
  refine (rsigned_64 _ _).mono ?_
  rintro e w' ⟨rfl, rfl⟩
  rw [HX.out]
  go_wp2_with fail
  refine (rsigned_64 _ _).mono ?_
  rintro e w' ⟨rfl, rfl⟩
  rw [HY.out]
  go_wp2_with fail
  go_ret
  exact ⟨rfl, rfl⟩

set_option maxRecDepth 100000 in
set_option maxHeartbeats 1000000 in
theorem rtest64_5_gt (a b : Nat) (X Y : Int) (w : World) (hX : wrap64 (a : Int) = X) (hY : wrap64 (b : Int) = Y) (h : b < a) :
    Calls Tryd.prog 32 #[.int .i64 5, .int .u64 a, .int .u64 b, .int .i64 64] w fun e w' => e = .returned (.bool true) ∧ w = w' := by
  have HX := Lib.hid hX
  have HY := Lib.hid hY
  have f1 : decide (a < b) = false := by simp; omega
  have f2 : ((a : Int) == (b : Int)) = false := beq_eq_false_iff_ne.2 (by omega)
  have f3 : ((a : Int) != (b : Int)) = true := bne_iff_ne.2 (by omega)
  clear h
  clear hX hY
  go_enter Tryd.func32, Tryd.ntmps32
  go_wp2_with fail
  refine (rsigned_64 _ _).mono ?_
  rintro e w' ⟨rfl, rfl⟩
  rw [HX.out]
  go_wp2_with fail
  refine (rsigned_64 _ _).mono ?_
  rintro e w' ⟨rfl, rfl⟩
  rw [HY.out]
  go_wp2_with fail
  go_ret
  exact ⟨rfl, rfl⟩

set_option maxRecDepth 100000 in
set_option maxHeartbeats 1000000 in
theorem rtest64_6_lt (a b : Nat) (X Y : Int) (w : World) (hX : wrap64 (a : Int) = X) (hY : wrap64 (b : Int) = Y) (h : X < Y) (hab : a ≠ b) :
    Calls Tryd.prog 32 #[.int .i64 6, .int .u64 a, .int .u64 b, .int .i64 64] w fun e w' => e = .returned (.bool true) ∧ w = w' := by
  have HX := Lib.hid hX
  have HY := Lib.hid hY
  have f1 : decide (X < Y) = true := by simp [h]
  have f2 : ((a : Int) == (b : Int)) = false := beq_eq_false_iff_ne.2 (by omega)
  have f3 : ((a : Int) != (b : Int)) = true := bne_iff_ne.2 (by omega)
  clear hab h
  clear hX hY
  go_enter Tryd.func32, Tryd.ntmps32
  go_wp2_with fail
  refine (rsigned_64 _ _).mono ?_
  rintro e w' ⟨rfl, rfl⟩
  rw [HX.out]
  go_wp2_with fail
  refine (rsigned_64 _ _).mono ?_
  rintro e w' ⟨rfl, rfl⟩
  rw [HY.out]
  go_wp2_with fail
  go_ret
  exact ⟨rfl, rfl⟩

set_option maxRecDepth 100000 in
set_option maxHeartbeats 1000000 in
theorem rtest64_6_eq (a b : Nat) (X Y : Int) (w : World) (hX : wrap64 (a : Int) = X) (hY : wrap64 (b : Int) = Y) (h : ¬ X < Y) (hab : a = b) :
    Calls Tryd.prog 32 #[.int .i64 6, .int .u64 a, .int .u64 b, .int .i64 64] w fun e w' => e = .returned (.bool true) ∧ w = w' := by
  have HX := Lib.hid hX
  have HY := Lib.hid hY
  have f1 : decide (X < Y) = false := by simp [h]
  have f2 : ((a : Int) == (b : Int)) = true := by simp [hab]
  have f3 : ((a : Int) != (b : Int)) = false := by simp [hab]
  clear hab h
  clear hX hY
  go_enter Tryd.func32, Tryd.ntmps32
  go_wp2_with fail
  refine (rsigned_64 _ _).mono ?_
  rintro e w' ⟨rfl, rfl⟩
  rw [HX.out]
  go_wp2_with fail
  refine (rsigned_64 _ _).mono ?_
  rintro e w' ⟨rfl, rfl⟩
  rw [HY.out]
  go_wp2_with fail
  go_ret
  exact ⟨rfl, rfl⟩

set_option maxRecDepth 100000 in
set_option maxHeartbeats 1000000 in
theorem rtest64_6_gt (a b : Nat) (X Y : Int) (w : World) (hX : wrap64 (a : Int) = X) (hY : wrap64 (b : Int) = Y) (h : ¬ X < Y) (hab : a ≠ b) :
    Calls Tryd.prog 32 #[.int .i64 6, .int .u64 a, .int .u64 b, .int .i64 64] w fun e w' => e = .returned (.bool false) ∧ w = w' := by
  have HX := Lib.hid hX
  have HY := Lib.hid hY
  have f1 : decide (X < Y) = false := by simp [h]
  have f2 : ((a : Int) == (b : Int)) = false := beq_eq_false_iff_ne.2 (by omega)
  have f3 : ((a : Int) != (b : Int)) = true := bne_iff_ne.2 (by omega)
  clear hab h
  clear hX hY
  go_enter Tryd.func32, Tryd.ntmps32
  go_wp2_with fail
  refine (rsigned_64 _ _).mono ?_
  rintro e w' ⟨rfl, rfl⟩
  rw [HX.out]
  go_wp2_with fail
  refine (rsigned_64 _ _).mono ?_
  rintro e w' ⟨rfl, rfl⟩
  rw [HY.out]
  go_wp2_with fail
  go_ret
  exact ⟨rfl, rfl⟩

set_option maxRecDepth 100000 in
set_option maxHeartbeats 1000000 in
theorem rtest64_7_lt (a b : Nat) (X Y : Int) (w : World) (hX : wrap64 (a : Int) = X) (hY : wrap64 (b : Int) = Y) (h : a < b) :
    Calls Tryd.prog 32 #[.int .i64 7, .int .u64 a, .int .u64 b, .int .i64 64] w fun e w' => e = .returned (.bool true) ∧ w = w' := by
  have HX := Lib.hid hX
  have HY := Lib.hid hY
  have f1 : decide (a < b) = true := by simp [h]
  have f2 : ((a : Int) == (b : Int)) = false := beq_eq_false_iff_ne.2 (by omega)
  have f3 : ((a : Int) != (b : Int)) = true := bne_iff_ne.2 (by omega)
  clear h
  clear hX hY
  go_enter Tryd.func32, Tryd.ntmps32
  go_wp2_with fail
  refine (rsigned_64 _ _).mono ?_
  rintro e w' ⟨rfl, rfl⟩
  rw [HX.out]
  go_wp2_with fail
  refine (rsigned_64 _ _).mono ?_
  rintro e w' ⟨rfl, rfl⟩
  rw [HY.out]
  go_wp2_with fail
  go_ret
  exact ⟨rfl, rfl⟩

set_option maxRecDepth 100000 in
set_option maxHeartbeats 1000000 in
theorem rtest64_7_eq (a b : Nat) (X Y : Int) (w : World) (hX : wrap64 (a : Int) = X) (hY : wrap64 (b : Int) = Y) (h : a = b) :
    Calls Tryd.prog 32 #[.int .i64 7, .int .u64 a, .int .u64 b, .int .i64 64] w fun e w' => e = .returned (.bool true) ∧ w = w' := by
  have HX := Lib.hid hX
  have HY := Lib.hid hY
  have f1 : decide (a < b) = false := by simp [h]
  have f2 : ((a : Int) == (b : Int)) = true := by simp [h]
  have f3 : ((a : Int) != (b : Int)) = false := by simp [h]
  clear h
  clear hX hY
  go_enter Tryd.func32, Tryd.ntmps32
  go_wp2_with fail
  refine (rsigned_64 _ _).mono ?_
  rintro e w' ⟨rfl, rfl⟩
  rw [HX.out]
  go_wp2_with fail
  refine (rsigned_64 _ _).mono ?_
  rintro e w' ⟨rfl, rfl⟩
  rw [HY.out]
  go_wp2_with fail
  go_ret
  exact ⟨rfl, rfl⟩

set_option maxRecDepth 100000 in
set_option maxHeartbeats 1000000 in
theorem rtest64_7_gt (a b : Nat) (X Y : Int) (w : World) (hX : wrap64 (a : Int) = X) (hY : wrap64 (b : Int) = Y) (h : b < a) :
    Calls Tryd.prog 32 #[.int .i64 7, .int .u64 a, .int .u64 b, .int .i64 64] w fun e w' => e = .returned (.bool false) ∧ w = w' := by
  have HX := Lib.hid hX
  have HY := Lib.hid hY
  have f1 : decide (a < b) = false := by simp; omega
  have f2 : ((a : Int) == (b : Int)) = false := beq_eq_false_iff_ne.2 (by omega)
  have f3 : ((a : Int) != (b : Int)) = true := bne_iff_ne.2 (by omega)
  clear h
  clear hX hY
  go_enter Tryd.func32, Tryd.ntmps32
  go_wp2_with fail
  refine (rsigned_64 _ _).mono ?_
  rintro e w' ⟨rfl, rfl⟩
  rw [HX.out]
  go_wp2_with fail
  refine (rsigned_64 _ _).mono ?_
  rintro e w' ⟨rfl, rfl⟩
  rw [HY.out]
  go_wp2_with fail
  go_ret
  exact ⟨rfl, rfl⟩

set_option maxRecDepth 100000 in
set_option maxHeartbeats 1000000 in
theorem rtest64_8_lt (a b : Nat) (X Y : Int) (w : World) (hX : wrap64 (a : Int) = X) (hY : wrap64 (b : Int) = Y) (h : X < Y) (hab : a ≠ b) :
    Calls Tryd.prog 32 #[.int .i64 8, .int .u64 a, .int .u64 b, .int .i64 64] w fun e w' => e = .returned (.bool false) ∧ w = w' := by
  have HX := Lib.hid hX
  have HY := Lib.hid hY
  have f1 : decide (X < Y) = true := by simp [h]
  have f2 : ((a : Int) == (b : Int)) = false := beq_eq_false_iff_ne.2 (by omega)
  have f3 : ((a : Int) != (b : Int)) = true := bne_iff_ne.2 (by omega)
  clear hab h
  clear hX hY
  go_enter Tryd.func32, Tryd.ntmps32
  go_wp2_with fail
  refine (rsigned_64 _ _).mono ?_
  rintro e w' ⟨rfl, rfl⟩
  rw [HX.out]
  go_wp2_with fail
  refine (rsigned_64 _ _).mono ?_
  rintro e w' ⟨rfl, rfl⟩
  rw [HY.out]
  go_wp2_with fail
  go_ret
  exact ⟨rfl, rfl⟩

set_option maxRecDepth 100000 in
set_option maxHeartbeats 1000000 in
theorem rtest64_8_eq (a b : Nat) (X Y : Int) (w : World) (hX : wrap64 (a : Int) = X) (hY : wrap64 (b : Int) = Y) (h : ¬ X < Y) (hab : a = b) :
    Calls Tryd.prog 32 #[.int .i64 8, .int .u64 a, .int .u64 b, .int .i64 64] w fun e w' => e = .returned (.bool true) ∧ w = w' := by
  have HX := Lib.hid hX
  have HY := Lib.hid hY
  have f1 : decide (X < Y) = false := by simp [h]
  have f2 : ((a : Int) == (b : Int)) = true := by simp [hab]
  have f3 : ((a : Int) != (b : Int)) = false := by simp [hab]
  clear hab h
  clear hX hY
  go_enter Tryd.func32, Tryd.ntmps32
  go_wp2_with fail
  refine (rsigned_64 _ _).mono ?_
  rintro e w' ⟨rfl, rfl⟩
  rw [HX.out]
  go_wp2_with fail
  refine (rsigned_64 _ _).mono ?_
  rintro e w' ⟨rfl, rfl⟩
  rw [HY.out]
  go_wp2_with fail
  go_ret
  exact ⟨rfl, rfl⟩

set_option maxRecDepth 100000 in
set_option maxHeartbeats 1000000 in
theorem rtest64_8_gt (a b : Nat) (X Y : Int) (w : World) (hX : wrap64 (a : Int) = X) (hY : wrap64 (b : Int) = Y) (h : ¬ X < Y) (hab : a ≠ b) :
    Calls Tryd.prog 32 #[.int .i64 8, .int .u64 a, .int .u64 b, .int .i64 64] w fun e w' => e = .returned (.bool true) ∧ w = w' := by
  have HX := Lib.hid hX
  have HY := Lib.hid hY
  have f1 : decide (X < Y) = false := by simp [h]
  have f2 : ((a : Int) == (b : Int)) = false := beq_eq_false_iff_ne.2 (by omega)
  have f3 : ((a : Int) != (b : Int)) = true := bne_iff_ne.2 (by omega)
  clear hab h
  clear hX hY
  go_enter Tryd.func32, Tryd.ntmps32
  go_wp2_with fail
  refine (rsigned_64 _ _).mono ?_
  rintro e w' ⟨rfl, rfl⟩
  rw [HX.out]
  go_wp2_with fail
  refine (rsigned_64 _ _).mono ?_
  rintro e w' ⟨rfl, rfl⟩
  rw [HY.out]
  go_wp2_with fail
  go_ret
  exact ⟨rfl, rfl⟩

set_option maxRecDepth 100000 in
set_option maxHeartbeats 1000000 in
theorem rtest64_9_lt (a b : Nat) (X Y : Int) (w : World) (hX : wrap64 (a : Int) = X) (hY : wrap64 (b : Int) = Y) (h : a < b) :
    Calls Tryd.prog 32 #[.int .i64 9, .int .u64 a, .int .u64 b, .int .i64 64] w fun e w' => e = .returned (.bool false) ∧ w = w' := by
  have HX := Lib.hid hX
  have HY := Lib.hid hY
  have f1 : decide (a < b) = true := by simp [h]
  have f2 : ((a : Int) == (b : Int)) = false := beq_eq_false_iff_ne.2 (by omega)
  have f3 : ((a : Int) != (b : Int)) = true := bne_iff_ne.2 (by omega)
  clear h
  clear hX hY
  go_enter Tryd.func32, Tryd.ntmps32
  go_wp2_with fail
  refine (rsigned_64 _ _).mono ?_
  rintro e w' ⟨rfl, rfl⟩
  rw [HX.out]
  go_wp2_with fail
  refine (rsigned_64 _ _).mono ?_
  rintro e w' ⟨rfl, rfl⟩
  rw [HY.out]
  go_wp2_with fail
  go_ret
  exact ⟨rfl, rfl⟩

set_option maxRecDepth 100000 in
set_option maxHeartbeats 1000000 in
theorem rtest64_9_eq (a b : Nat) (X Y : Int) (w : World) (hX : wrap64 (a : Int) = X) (hY : wrap64 (b : Int) = Y) (h : a = b) :
    Calls Tryd.prog 32 #[.int .i64 9, .int .u64 a, .int .u64 b, .int .i64 64] w fun e w' => e = .returned (.bool true) ∧ w = w' := by
  have HX := Lib.hid hX
  have HY := Lib.hid hY
  have f1 : decide (a < b) = false := by simp [h]
  have f2 : ((a : Int) == (b : Int)) = true := by simp [h]
  have f3 : ((a : Int) != (b : Int)) = false := by simp [h]
  clear h
  clear hX hY
  go_enter Tryd.func32, Tryd.ntmps32
  go_wp2_with fail
  refine (rsigned_64 _ _).mono ?_
  rintro e w' ⟨rfl, rfl⟩
  rw [HX.out]
  go_wp2_with fail
  refine (rsigned_64 _ _).mono ?_
  rintro e w' ⟨rfl, rfl⟩
  rw [HY.out]
  go_wp2_with fail
  go_ret
  exact ⟨rfl, rfl⟩

set_option maxRecDepth 100000 in
set_option maxHeartbeats 1000000 in
theorem rtest64_9_gt (a b : Nat) (X Y : Int) (w : World) (hX : wrap64 (a : Int) = X) (hY : wrap64 (b : Int) = Y) (h : b < a) :
    Calls Tryd.prog 32 #[.int .i64 9, .int .u64 a, .int .u64 b, .int .i64 64] w fun e w' => e = .returned (.bool true) ∧ w = w' := by
  have HX := Lib.hid hX
  have HY := Lib.hid hY
  have f1 : decide (a < b) = false := by simp; omega
  have f2 : ((a : Int) == (b : Int)) = false := beq_eq_false_iff_ne.2 (by omega)
  have f3 : ((a : Int) != (b : Int)) = true := bne_iff_ne.2 (by omega)
  clear h
  clear hX hY
  go_enter Tryd.func32, Tryd.ntmps32
  go_wp2_with fail
  refine (rsigned_64 _ _).mono ?_
  rintro e w' ⟨rfl, rfl⟩
  rw [HX.out]
  go_wp2_with fail
  refine (rsigned_64 _ _).mono ?_
  rintro e w' ⟨rfl, rfl⟩
  rw [HY.out]
  go_wp2_with fail
  go_ret
  exact ⟨rfl, rfl⟩

theorem rtest64_any (k : Nat) (hk : k < 10) (a b : Nat) (w : World) (ha : a < 18446744073709551616) (hb : b < 18446744073709551616) :
    Calls Tryd.prog 32 #[.int .i64 k, .int .u64 a, .int .u64 b, .int .i64 64] w fun e w' => e = .returned (.bool (testB k (ord (wrap64 (a : Int)) (wrap64 (b : Int))) (ord (a : Int) (b : Int)))) ∧ w = w' := by
  have hab : a = b ∨ a ≠ b := by omega
  have hww : wrap64 (a : Int) = wrap64 (b : Int) → a = b := by unfold wrap64; omega
  rcases (show k = 0 ∨ k = 1 ∨ k = 2 ∨ k = 3 ∨ k = 4 ∨ k = 5 ∨ k = 6 ∨ k = 7 ∨ k = 8 ∨ k = 9 by omega) with rfl | rfl | rfl | rfl | rfl | rfl | rfl | rfl | rfl | rfl
  · rcases (show wrap64 (a : Int) < wrap64 (b : Int) ∨ (¬ wrap64 (a : Int) < wrap64 (b : Int) ∧ a = b) ∨ (wrap64 (b : Int) < wrap64 (a : Int) ∧ a ≠ b) by rcases hab with h | h; exact .inr (.inl ⟨by rw [h]; omega, h⟩); by_cases h2 : wrap64 (a : Int) < wrap64 (b : Int); exact .inl h2; exact .inr (.inr ⟨by have := fun e => h (hww e); omega, h⟩)) with h | ⟨h, h2⟩ | ⟨h, h2⟩
    · rw [ord_lt h]
      exact rtest64_0_lt a b _ _ w rfl rfl h (by rintro rfl; omega)
    · subst h2
      rw [ord_same, ord_same]
      exact rtest64_0_eq a a _ _ w rfl rfl h rfl
    · rw [ord_gt h]
      exact rtest64_0_gt a b _ _ w rfl rfl (by omega) h2
  · rcases Nat.lt_trichotomy a b with h | h | h
    · rw [ord_lt (show (a : Int) < (b : Int) by omega)]
      exact rtest64_1_lt a b _ _ w rfl rfl h
    · subst h
      rw [ord_same, ord_same]
      exact rtest64_1_eq a a _ _ w rfl rfl rfl
    · rw [ord_gt (show (b : Int) < (a : Int) by omega)]
      exact rtest64_1_gt a b _ _ w rfl rfl h
  · rcases (show wrap64 (a : Int) < wrap64 (b : Int) ∨ (¬ wrap64 (a : Int) < wrap64 (b : Int) ∧ a = b) ∨ (wrap64 (b : Int) < wrap64 (a : Int) ∧ a ≠ b) by rcases hab with h | h; exact .inr (.inl ⟨by rw [h]; omega, h⟩); by_cases h2 : wrap64 (a : Int) < wrap64 (b : Int); exact .inl h2; exact .inr (.inr ⟨by have := fun e => h (hww e); omega, h⟩)) with h | ⟨h, h2⟩ | ⟨h, h2⟩
    · rw [ord_lt h]
      exact rtest64_2_lt a b _ _ w rfl rfl h (by rintro rfl; omega)
    · subst h2
      rw [ord_same, ord_same]
      exact rtest64_2_eq a a _ _ w rfl rfl h rfl
    · rw [ord_gt h]
      exact rtest64_2_gt a b _ _ w rfl rfl (by omega) h2
  · rcases Nat.lt_trichotomy a b with h | h | h
    · rw [ord_lt (show (a : Int) < (b : Int) by omega)]
      exact rtest64_3_lt a b _ _ w rfl rfl h
    · subst h
      rw [ord_same, ord_same]
      exact rtest64_3_eq a a _ _ w rfl rfl rfl
    · rw [ord_gt (show (b : Int) < (a : Int) by omega)]
      exact rtest64_3_gt a b _ _ w rfl rfl h
  · rcases (show wrap64 (a : Int) < wrap64 (b : Int) ∨ (¬ wrap64 (a : Int) < wrap64 (b : Int) ∧ a = b) ∨ (wrap64 (b : Int) < wrap64 (a : Int) ∧ a ≠ b) by rcases hab with h | h; exact .inr (.inl ⟨by rw [h]; omega, h⟩); by_cases h2 : wrap64 (a : Int) < wrap64 (b : Int); exact .inl h2; exact .inr (.inr ⟨by have := fun e => h (hww e); omega, h⟩)) with h | ⟨h, h2⟩ | ⟨h, h2⟩
    · rw [ord_lt h]
      exact rtest64_4_lt a b _ _ w rfl rfl h (by rintro rfl; omega)
    · subst h2
      rw [ord_same, ord_same]
      exact rtest64_4_eq a a _ _ w rfl rfl h rfl
    · rw [ord_gt h]
      exact rtest64_4_gt a b _ _ w rfl rfl (by omega) h2
  · rcases Nat.lt_trichotomy a b with h | h | h
    · rw [ord_lt (show (a : Int) < (b : Int) by omega)]
      exact rtest64_5_lt a b _ _ w rfl rfl h
    · subst h
      rw [ord_same, ord_same]
      exact rtest64_5_eq a a _ _ w rfl rfl rfl
    · rw [ord_gt (show (b : Int) < (a : Int) by omega)]
      exact rtest64_5_gt a b _ _ w rfl rfl h
  · rcases (show wrap64 (a : Int) < wrap64 (b : Int) ∨ (¬ wrap64 (a : Int) < wrap64 (b : Int) ∧ a = b) ∨ (wrap64 (b : Int) < wrap64 (a : Int) ∧ a ≠ b) by rcases hab with h | h; exact .inr (.inl ⟨by rw [h]; omega, h⟩); by_cases h2 : wrap64 (a : Int) < wrap64 (b : Int); exact .inl h2; exact .inr (.inr ⟨by have := fun e => h (hww e); omega, h⟩)) with h | ⟨h, h2⟩ | ⟨h, h2⟩
    · rw [ord_lt h]
      exact rtest64_6_lt a b _ _ w rfl rfl h (by rintro rfl; omega)
    · subst h2
      rw [ord_same, ord_same]
      exact rtest64_6_eq a a _ _ w rfl rfl h rfl
    · rw [ord_gt h]
      exact rtest64_6_gt a b _ _ w rfl rfl (by omega) h2
  · rcases Nat.lt_trichotomy a b with h | h | h
    · rw [ord_lt (show (a : Int) < (b : Int) by omega)]
      exact rtest64_7_lt a b _ _ w rfl rfl h
    · subst h
      rw [ord_same, ord_same]
      exact rtest64_7_eq a a _ _ w rfl rfl rfl
    · rw [ord_gt (show (b : Int) < (a : Int) by omega)]
      exact rtest64_7_gt a b _ _ w rfl rfl h
  · rcases (show wrap64 (a : Int) < wrap64 (b : Int) ∨ (¬ wrap64 (a : Int) < wrap64 (b : Int) ∧ a = b) ∨ (wrap64 (b : Int) < wrap64 (a : Int) ∧ a ≠ b) by rcases hab with h | h; exact .inr (.inl ⟨by rw [h]; omega, h⟩); by_cases h2 : wrap64 (a : Int) < wrap64 (b : Int); exact .inl h2; exact .inr (.inr ⟨by have := fun e => h (hww e); omega, h⟩)) with h | ⟨h, h2⟩ | ⟨h, h2⟩
    · rw [ord_lt h]
      exact rtest64_8_lt a b _ _ w rfl rfl h (by rintro rfl; omega)
    · subst h2
      rw [ord_same, ord_same]
      exact rtest64_8_eq a a _ _ w rfl rfl h rfl
    · rw [ord_gt h]
      exact rtest64_8_gt a b _ _ w rfl rfl (by omega) h2
  · rcases Nat.lt_trichotomy a b with h | h | h
    · rw [ord_lt (show (a : Int) < (b : Int) by omega)]
      exact rtest64_9_lt a b _ _ w rfl rfl h
    · subst h
      rw [ord_same, ord_same]
      exact rtest64_9_eq a a _ _ w rfl rfl rfl
    · rw [ord_gt (show (b : Int) < (a : Int) by omega)]
      exact rtest64_9_gt a b _ _ w rfl rfl h
end Go.Proofs.YtebikmnegemggaaDoor.Num
