/-
  What the reference's divided of chapter 2 answers. No condition beyond what each theorem names.
-/
import Derived.Test.YtebikmnegemggaaDoorNumOnes
import Derived.Test.YtebikmnegemggaaDoorNumDivVals
namespace Go.Proofs.YtebikmnegemggaaDoor.Num
open Go.RowKit
set_option linter.unusedVariables false
theorem wr64 (z : Int) (h1 : -9223372036854775808 ≤ z) (h2 : z < 9223372036854775808) : wrap64 z = z := by
  unfold wrap64
  omega
theorem retUB {a a' : Int} {b : Bool} (h1 : a = a') : Ending.returned (.tuple #[.int .u64 a, .bool b]) = .returned (.tuple #[.int .u64 a', .bool b]) := by rw [h1]

set_option maxRecDepth 100000 in
set_option maxHeartbeats 1000000 in
theorem rdiv32_z0 (a b : Nat) (X Y : Int) (w : World) (ha : a < 4294967296) (hb : b < 4294967296) (hX : wrap32 (a : Int) = X) (hY : wrap32 (b : Int) = Y) (h0 : b = 0) :
    Calls Tryd.prog 34 #[.int .i64 0, .int .u64 a, .int .u64 b, .int .i64 32] w fun e w' => e = .returned (.tuple #[.int .u64 (0), .bool false]) ∧ w = w' := by
  have HX := Lib.hid hX
  have HY := Lib.hid hY
  have f0 : ((b : Int) == 0) = true := by simp [h0]
  clear h0
  have HA := Lib.hid ha
  have HB := Lib.hid hb
  clear ha hb hX hY
  go_enter Tryd.func34, Tryd.ntmps34
  go_wp2_with fail
  go_ret2
  exact ⟨rfl, rfl⟩

set_option maxRecDepth 100000 in
set_option maxHeartbeats 1000000 in
theorem rdiv32_z1 (a b : Nat) (X Y : Int) (w : World) (ha : a < 4294967296) (hb : b < 4294967296) (hX : wrap32 (a : Int) = X) (hY : wrap32 (b : Int) = Y) (h0 : b = 0) :
    Calls Tryd.prog 34 #[.int .i64 1, .int .u64 a, .int .u64 b, .int .i64 32] w fun e w' => e = .returned (.tuple #[.int .u64 (0), .bool false]) ∧ w = w' := by
  have HX := Lib.hid hX
  have HY := Lib.hid hY
  have f0 : ((b : Int) == 0) = true := by simp [h0]
  clear h0
  have HA := Lib.hid ha
  have HB := Lib.hid hb
  clear ha hb hX hY
  go_enter Tryd.func34, Tryd.ntmps34
  go_wp2_with fail
  go_ret2
  exact ⟨rfl, rfl⟩

set_option maxRecDepth 100000 in
set_option maxHeartbeats 1000000 in
theorem rdiv32_z2 (a b : Nat) (X Y : Int) (w : World) (ha : a < 4294967296) (hb : b < 4294967296) (hX : wrap32 (a : Int) = X) (hY : wrap32 (b : Int) = Y) (h0 : b = 0) :
    Calls Tryd.prog 34 #[.int .i64 2, .int .u64 a, .int .u64 b, .int .i64 32] w fun e w' => e = .returned (.tuple #[.int .u64 (0), .bool false]) ∧ w = w' := by
  have HX := Lib.hid hX
  have HY := Lib.hid hY
  have f0 : ((b : Int) == 0) = true := by simp [h0]
  clear h0
  have HA := Lib.hid ha
  have HB := Lib.hid hb
  clear ha hb hX hY
  go_enter Tryd.func34, Tryd.ntmps34
  go_wp2_with fail
  go_ret2
  exact ⟨rfl, rfl⟩

set_option maxRecDepth 100000 in
set_option maxHeartbeats 1000000 in
theorem rdiv32_z3 (a b : Nat) (X Y : Int) (w : World) (ha : a < 4294967296) (hb : b < 4294967296) (hX : wrap32 (a : Int) = X) (hY : wrap32 (b : Int) = Y) (h0 : b = 0) :
    Calls Tryd.prog 34 #[.int .i64 3, .int .u64 a, .int .u64 b, .int .i64 32] w fun e w' => e = .returned (.tuple #[.int .u64 (0), .bool false]) ∧ w = w' := by
  have HX := Lib.hid hX
  have HY := Lib.hid hY
  have f0 : ((b : Int) == 0) = true := by simp [h0]
  clear h0
  have HA := Lib.hid ha
  have HB := Lib.hid hb
  clear ha hb hX hY
  go_enter Tryd.func34, Tryd.ntmps34
  go_wp2_with fail
  go_ret2
  exact ⟨rfl, rfl⟩

set_option maxRecDepth 100000 in
set_option maxHeartbeats 1000000 in
theorem rdiv32_l (a b : Nat) (X Y : Int) (w : World) (ha : a < 4294967296) (hb : b < 4294967296) (hX : wrap32 (a : Int) = X) (hY : wrap32 (b : Int) = Y) (h0 : b ≠ 0) (hx : X = -2147483648) (hy : Y = -1) :
    Calls Tryd.prog 34 #[.int .i64 0, .int .u64 a, .int .u64 b, .int .i64 32] w fun e w' => e = .returned (.tuple #[.int .u64 (0), .bool false]) ∧ w = w' := by
  have HX := Lib.hid hX
  have HY := Lib.hid hY
  have f0 : ((b : Int) == 0) = false := beq_eq_false_iff_ne.2 (by omega)
  have f1 : (X == -2147483648) = true := by simp [hx]
  have f2 : (Y == -1) = true := by simp [hy]
  clear h0 hx hy
  have HA := Lib.hid ha
  have HB := Lib.hid hb
  clear ha hb hX hY
  go_enter Tryd.func34, Tryd.ntmps34
  go_wp2_with fail
  refine (rsigned_32 a a _ (by have := HA.out; omega)).mono ?_
  rintro e w' ⟨rfl, rfl⟩
  rw [HX.out]
  go_wp2_with fail
  refine (rsigned_32 b b _ (by have := HB.out; omega)).mono ?_
  rintro e w' ⟨rfl, rfl⟩
  rw [HY.out]
  go_wp2_with fail
  go_ret2
  exact ⟨rfl, rfl⟩

set_option maxRecDepth 100000 in
set_option maxHeartbeats 1000000 in
theorem rdiv32_qm (a b : Nat) (X Y : Int) (w : World) (ha : a < 4294967296) (hb : b < 4294967296) (hX : wrap32 (a : Int) = X) (hY : wrap32 (b : Int) = Y) (h0 : b ≠ 0) (hx : X ≠ -2147483648) (hy : Y = -1) :
    Calls Tryd.prog 34 #[.int .i64 0, .int .u64 a, .int .u64 b, .int .i64 32] w fun e w' => e = .returned (.tuple #[.int .u64 (IntKind.u64.wrap (X.tdiv Y)), .bool true]) ∧ w = w' := by
  have HX := Lib.hid hX
  have HY := Lib.hid hY
  have f0 : ((b : Int) == 0) = false := beq_eq_false_iff_ne.2 (by omega)
  have hXb : -2147483648 ≤ X ∧ X < 2147483648 := by rw [← hX]; unfold wrap32; omega
  have hYb : -2147483648 ≤ Y ∧ Y < 2147483648 := by rw [← hY]; unfold wrap32; omega
  have hY0 : Y ≠ 0 := by rw [← hY]; unfold wrap32; omega
  have hq : wrap64 (X.tdiv Y) = X.tdiv Y := by
    have h9 := (show -2147483648 ≤ X.tdiv Y ∧ X.tdiv Y < 2147483648 by rw [hy, tdiv_m1]; omega)
    exact wr64 _ (by omega) (by omega)
  have f3 : (Y == 0) = false := beq_eq_false_iff_ne.2 hY0
  have hyo : ¬ Y = 0 := hY0
  have f1 : (X == -2147483648) = false := beq_eq_false_iff_ne.2 hx
  clear h0 hXb hYb hY0 hx hy
  have HA := Lib.hid ha
  have HB := Lib.hid hb
  clear ha hb hX hY
  go_enter Tryd.func34, Tryd.ntmps34
  go_wp2_with fail
  refine (rsigned_32 a a _ (by have := HA.out; omega)).mono ?_
  rintro e w' ⟨rfl, rfl⟩
  rw [HX.out]
  go_wp2_with fail
  refine (rsigned_32 b b _ (by have := HB.out; omega)).mono ?_
  rintro e w' ⟨rfl, rfl⟩
  rw [HY.out]
  go_wp2_with fail
  go_ret2
  exact ⟨rfl, rfl⟩

set_option maxRecDepth 100000 in
set_option maxHeartbeats 1000000 in
theorem rdiv32_qn (a b : Nat) (X Y : Int) (w : World) (ha : a < 4294967296) (hb : b < 4294967296) (hX : wrap32 (a : Int) = X) (hY : wrap32 (b : Int) = Y) (h0 : b ≠ 0) (hx : X ≠ -2147483648) (hy : Y ≠ -1) :
    Calls Tryd.prog 34 #[.int .i64 0, .int .u64 a, .int .u64 b, .int .i64 32] w fun e w' => e = .returned (.tuple #[.int .u64 (IntKind.u64.wrap (X.tdiv Y)), .bool true]) ∧ w = w' := by
  have HX := Lib.hid hX
  have HY := Lib.hid hY
  have f0 : ((b : Int) == 0) = false := beq_eq_false_iff_ne.2 (by omega)
  have hXb : -2147483648 ≤ X ∧ X < 2147483648 := by rw [← hX]; unfold wrap32; omega
  have hYb : -2147483648 ≤ Y ∧ Y < 2147483648 := by rw [← hY]; unfold wrap32; omega
  have hY0 : Y ≠ 0 := by rw [← hY]; unfold wrap32; omega
  have hq : wrap64 (X.tdiv Y) = X.tdiv Y := by
    have h9 := tdiv_range X Y 2147483648 hXb.1 hXb.2 hY0 hy
    exact wr64 _ (by omega) (by omega)
  have f3 : (Y == 0) = false := beq_eq_false_iff_ne.2 hY0
  have hyo : ¬ Y = 0 := hY0
  have f2 : (Y == -1) = false := beq_eq_false_iff_ne.2 hy
  have f1 : (X == -2147483648) = false := beq_eq_false_iff_ne.2 hx
  clear h0 hXb hYb hY0 hx hy
  have HA := Lib.hid ha
  have HB := Lib.hid hb
  clear ha hb hX hY
  go_enter Tryd.func34, Tryd.ntmps34
  go_wp2_with fail
  refine (rsigned_32 a a _ (by have := HA.out; omega)).mono ?_
  rintro e w' ⟨rfl, rfl⟩
  rw [HX.out]
  go_wp2_with fail
  refine (rsigned_32 b b _ (by have := HB.out; omega)).mono ?_
  rintro e w' ⟨rfl, rfl⟩
  rw [HY.out]
  go_wp2_with fail
  go_ret2
  exact ⟨rfl, rfl⟩

set_option maxRecDepth 100000 in
set_option maxHeartbeats 1000000 in
theorem rdiv32_qk (a b : Nat) (X Y : Int) (w : World) (ha : a < 4294967296) (hb : b < 4294967296) (hX : wrap32 (a : Int) = X) (hY : wrap32 (b : Int) = Y) (h0 : b ≠ 0) (hx : X = -2147483648) (hy : Y ≠ -1) :
    Calls Tryd.prog 34 #[.int .i64 0, .int .u64 a, .int .u64 b, .int .i64 32] w fun e w' => e = .returned (.tuple #[.int .u64 (IntKind.u64.wrap (X.tdiv Y)), .bool true]) ∧ w = w' := by
  have HX := Lib.hid hX
  have HY := Lib.hid hY
  have f0 : ((b : Int) == 0) = false := beq_eq_false_iff_ne.2 (by omega)
  have hXb : -2147483648 ≤ X ∧ X < 2147483648 := by rw [← hX]; unfold wrap32; omega
  have hYb : -2147483648 ≤ Y ∧ Y < 2147483648 := by rw [← hY]; unfold wrap32; omega
  have hY0 : Y ≠ 0 := by rw [← hY]; unfold wrap32; omega
  have hq : wrap64 (X.tdiv Y) = X.tdiv Y := by
    have h9 := tdiv_range X Y 2147483648 hXb.1 hXb.2 hY0 hy
    exact wr64 _ (by omega) (by omega)
  have f3 : (Y == 0) = false := beq_eq_false_iff_ne.2 hY0
  have hyo : ¬ Y = 0 := hY0
  have f2 : (Y == -1) = false := beq_eq_false_iff_ne.2 hy
  have f1 : (X == -2147483648) = true := by simp [hx]
  clear h0 hXb hYb hY0 hx hy
  have HA := Lib.hid ha
  have HB := Lib.hid hb
  clear ha hb hX hY
  go_enter Tryd.func34, Tryd.ntmps34
  go_wp2_with fail
  refine (rsigned_32 a a _ (by have := HA.out; omega)).mono ?_
  rintro e w' ⟨rfl, rfl⟩
  rw [HX.out]
  go_wp2_with fail
  refine (rsigned_32 b b _ (by have := HB.out; omega)).mono ?_
  rintro e w' ⟨rfl, rfl⟩
  rw [HY.out]
  go_wp2_with fail
  go_ret2
  exact ⟨rfl, rfl⟩

set_option maxRecDepth 100000 in
set_option maxHeartbeats 1000000 in
theorem rdiv32_u (a b : Nat) (X Y : Int) (w : World) (ha : a < 4294967296) (hb : b < 4294967296) (hX : wrap32 (a : Int) = X) (hY : wrap32 (b : Int) = Y) (h0 : b ≠ 0) :
    Calls Tryd.prog 34 #[.int .i64 1, .int .u64 a, .int .u64 b, .int .i64 32] w fun e w' => e = .returned (.tuple #[.int .u64 (((a / b : Nat) : Int)), .bool true]) ∧ w = w' := by
  have HX := Lib.hid hX
  have HY := Lib.hid hY
  have f0 : ((b : Int) == 0) = false := beq_eq_false_iff_ne.2 (by omega)
  have hbo : ¬ (b : Int) = 0 := by omega
  have hqu : IntKind.u64.wrap ((a : Int) / (b : Int)) = (a : Int) / (b : Int) := by
    rw [show (a : Int) / (b : Int) = ((a / b : Nat) : Int) by rw [Int.natCast_ediv], IntKind.wrap_u64]
    have h9 := Nat.div_le_self a b
    generalize a / b = q at *
    omega
  clear h0
  have HA := Lib.hid ha
  have HB := Lib.hid hb
  clear ha hb hX hY
  go_enter Tryd.func34, Tryd.ntmps34
  go_wp2_with fail
  refine (rsigned_32 a a _ (by have := HA.out; omega)).mono ?_
  rintro e w' ⟨rfl, rfl⟩
  rw [HX.out]
  go_wp2_with fail
  refine (rsigned_32 b b _ (by have := HB.out; omega)).mono ?_
  rintro e w' ⟨rfl, rfl⟩
  rw [HY.out]
  go_wp2_with fail
  go_ret2
  exact ⟨retUB (by first | rfl | (push_cast; rfl)), rfl⟩

set_option maxRecDepth 100000 in
set_option maxHeartbeats 1000000 in
theorem rdiv32_r1 (a b : Nat) (X Y : Int) (w : World) (ha : a < 4294967296) (hb : b < 4294967296) (hX : wrap32 (a : Int) = X) (hY : wrap32 (b : Int) = Y) (h0 : b ≠ 0) (hy : Y = -1) :
    Calls Tryd.prog 34 #[.int .i64 2, .int .u64 a, .int .u64 b, .int .i64 32] w fun e w' => e = .returned (.tuple #[.int .u64 (0), .bool true]) ∧ w = w' := by
  have HX := Lib.hid hX
  have HY := Lib.hid hY
  have f0 : ((b : Int) == 0) = false := beq_eq_false_iff_ne.2 (by omega)
  have f2 : (Y == -1) = true := by simp [hy]
  clear h0 hy
  have HA := Lib.hid ha
  have HB := Lib.hid hb
  clear ha hb hX hY
  go_enter Tryd.func34, Tryd.ntmps34
  go_wp2_with fail
  refine (rsigned_32 a a _ (by have := HA.out; omega)).mono ?_
  rintro e w' ⟨rfl, rfl⟩
  rw [HX.out]
  go_wp2_with fail
  refine (rsigned_32 b b _ (by have := HB.out; omega)).mono ?_
  rintro e w' ⟨rfl, rfl⟩
  rw [HY.out]
  go_wp2_with fail
  go_ret2
  exact ⟨rfl, rfl⟩

set_option maxRecDepth 100000 in
set_option maxHeartbeats 1000000 in
theorem rdiv32_r (a b : Nat) (X Y : Int) (w : World) (ha : a < 4294967296) (hb : b < 4294967296) (hX : wrap32 (a : Int) = X) (hY : wrap32 (b : Int) = Y) (h0 : b ≠ 0) (hy : Y ≠ -1) :
    Calls Tryd.prog 34 #[.int .i64 2, .int .u64 a, .int .u64 b, .int .i64 32] w fun e w' => e = .returned (.tuple #[.int .u64 (IntKind.u64.wrap (X.tmod Y)), .bool true]) ∧ w = w' := by
  have HX := Lib.hid hX
  have HY := Lib.hid hY
  have f0 : ((b : Int) == 0) = false := beq_eq_false_iff_ne.2 (by omega)
  have hXb : -2147483648 ≤ X ∧ X < 2147483648 := by rw [← hX]; unfold wrap32; omega
  have hYb : -2147483648 ≤ Y ∧ Y < 2147483648 := by rw [← hY]; unfold wrap32; omega
  have hY0 : Y ≠ 0 := by rw [← hY]; unfold wrap32; omega
  have hq : wrap64 (X.tmod Y) = X.tmod Y := by
    have h9 := tmod_range X Y 2147483648 hXb.1 hXb.2 hY0
    exact wr64 _ (by omega) (by omega)
  have f2 : (Y == -1) = false := beq_eq_false_iff_ne.2 hy
  have f3 : (Y == 0) = false := beq_eq_false_iff_ne.2 hY0
  have hyo : ¬ Y = 0 := hY0
  clear h0 hXb hYb hY0 hy
  have HA := Lib.hid ha
  have HB := Lib.hid hb
  clear ha hb hX hY
  go_enter Tryd.func34, Tryd.ntmps34
  go_wp2_with fail
  refine (rsigned_32 a a _ (by have := HA.out; omega)).mono ?_
  rintro e w' ⟨rfl, rfl⟩
  rw [HX.out]
  go_wp2_with fail
  refine (rsigned_32 b b _ (by have := HB.out; omega)).mono ?_
  rintro e w' ⟨rfl, rfl⟩
  rw [HY.out]
  go_wp2_with fail
  go_ret2
  exact ⟨rfl, rfl⟩

set_option maxRecDepth 100000 in
set_option maxHeartbeats 1000000 in
theorem rdiv32_ru (a b : Nat) (X Y : Int) (w : World) (ha : a < 4294967296) (hb : b < 4294967296) (hX : wrap32 (a : Int) = X) (hY : wrap32 (b : Int) = Y) (h0 : b ≠ 0) :
    Calls Tryd.prog 34 #[.int .i64 3, .int .u64 a, .int .u64 b, .int .i64 32] w fun e w' => e = .returned (.tuple #[.int .u64 (((a % b : Nat) : Int)), .bool true]) ∧ w = w' := by
  have HX := Lib.hid hX
  have HY := Lib.hid hY
  have f0 : ((b : Int) == 0) = false := beq_eq_false_iff_ne.2 (by omega)
  have hbo : ¬ (b : Int) = 0 := by omega
  clear h0
  have HA := Lib.hid ha
  have HB := Lib.hid hb
  clear ha hb hX hY
  go_enter Tryd.func34, Tryd.ntmps34
  go_wp2_with fail
  refine (rsigned_32 a a _ (by have := HA.out; omega)).mono ?_
  rintro e w' ⟨rfl, rfl⟩
  rw [HX.out]
  go_wp2_with fail
  refine (rsigned_32 b b _ (by have := HB.out; omega)).mono ?_
  rintro e w' ⟨rfl, rfl⟩
  rw [HY.out]
  go_wp2_with fail
  go_ret2
  exact ⟨retUB (by first | rfl | (push_cast; rfl)), rfl⟩

set_option maxRecDepth 100000 in
set_option maxHeartbeats 1000000 in
theorem rdiv64_z0 (a b : Nat) (X Y : Int) (w : World) (ha : a < 18446744073709551616) (hb : b < 18446744073709551616) (hX : wrap64 (a : Int) = X) (hY : wrap64 (b : Int) = Y) (h0 : b = 0) :
    Calls Tryd.prog 34 #[.int .i64 0, .int .u64 a, .int .u64 b, .int .i64 64] w fun e w' => e = .returned (.tuple #[.int .u64 (0), .bool false]) ∧ w = w' := by
  have HX := Lib.hid hX
  have HY := Lib.hid hY
  have f0 : ((b : Int) == 0) = true := by simp [h0]
  clear h0
  have HA := Lib.hid ha
  have HB := Lib.hid hb
  clear ha hb hX hY
  go_enter Tryd.func34, Tryd.ntmps34
  go_wp2_with fail
  go_ret2
  exact ⟨rfl, rfl⟩

set_option maxRecDepth 100000 in
set_option maxHeartbeats 1000000 in
theorem rdiv64_z1 (a b : Nat) (X Y : Int) (w : World) (ha : a < 18446744073709551616) (hb : b < 18446744073709551616) (hX : wrap64 (a : Int) = X) (hY : wrap64 (b : Int) = Y) (h0 : b = 0) :
    Calls Tryd.prog 34 #[.int .i64 1, .int .u64 a, .int .u64 b, .int .i64 64] w fun e w' => e = .returned (.tuple #[.int .u64 (0), .bool false]) ∧ w = w' := by
  have HX := Lib.hid hX
  have HY := Lib.hid hY
  have f0 : ((b : Int) == 0) = true := by simp [h0]
  clear h0
  have HA := Lib.hid ha
  have HB := Lib.hid hb
  clear ha hb hX hY
  go_enter Tryd.func34, Tryd.ntmps34
  go_wp2_with fail
  go_ret2
  exact ⟨rfl, rfl⟩

set_option maxRecDepth 100000 in
set_option maxHeartbeats 1000000 in
theorem rdiv64_z2 (a b : Nat) (X Y : Int) (w : World) (ha : a < 18446744073709551616) (hb : b < 18446744073709551616) (hX : wrap64 (a : Int) = X) (hY : wrap64 (b : Int) = Y) (h0 : b = 0) :
    Calls Tryd.prog 34 #[.int .i64 2, .int .u64 a, .int .u64 b, .int .i64 64] w fun e w' => e = .returned (.tuple #[.int .u64 (0), .bool false]) ∧ w = w' := by
  have HX := Lib.hid hX
  have HY := Lib.hid hY
  have f0 : ((b : Int) == 0) = true := by simp [h0]
  clear h0
  have HA := Lib.hid ha
  have HB := Lib.hid hb
  clear ha hb hX hY
  go_enter Tryd.func34, Tryd.ntmps34
  go_wp2_with fail
  go_ret2
  exact ⟨rfl, rfl⟩

set_option maxRecDepth 100000 in
set_option maxHeartbeats 1000000 in
theorem rdiv64_z3 (a b : Nat) (X Y : Int) (w : World) (ha : a < 18446744073709551616) (hb : b < 18446744073709551616) (hX : wrap64 (a : Int) = X) (hY : wrap64 (b : Int) = Y) (h0 : b = 0) :
    Calls Tryd.prog 34 #[.int .i64 3, .int .u64 a, .int .u64 b, .int .i64 64] w fun e w' => e = .returned (.tuple #[.int .u64 (0), .bool false]) ∧ w = w' := by
  have HX := Lib.hid hX
  have HY := Lib.hid hY
  have f0 : ((b : Int) == 0) = true := by simp [h0]
  clear h0
  have HA := Lib.hid ha
  have HB := Lib.hid hb
  clear ha hb hX hY
  go_enter Tryd.func34, Tryd.ntmps34
  go_wp2_with fail
  go_ret2
  exact ⟨rfl, rfl⟩

set_option maxRecDepth 100000 in
set_option maxHeartbeats 1000000 in
theorem rdiv64_l (a b : Nat) (X Y : Int) (w : World) (ha : a < 18446744073709551616) (hb : b < 18446744073709551616) (hX : wrap64 (a : Int) = X) (hY : wrap64 (b : Int) = Y) (h0 : b ≠ 0) (hx : X = -9223372036854775808) (hy : Y = -1) :
    Calls Tryd.prog 34 #[.int .i64 0, .int .u64 a, .int .u64 b, .int .i64 64] w fun e w' => e = .returned (.tuple #[.int .u64 (0), .bool false]) ∧ w = w' := by
  have HX := Lib.hid hX
  have HY := Lib.hid hY
  have f0 : ((b : Int) == 0) = false := beq_eq_false_iff_ne.2 (by omega)
  have f1 : (X == -9223372036854775808) = true := by simp [hx]
  have f2 : (Y == -1) = true := by simp [hy]
  clear h0 hx hy
  have HA := Lib.hid ha
  have HB := Lib.hid hb
  clear ha hb hX hY
  go_enter Tryd.func34, Tryd.ntmps34
  go_wp2_with fail
  refine (rsigned_64 _ _).mono ?_
  rintro e w' ⟨rfl, rfl⟩
  rw [HX.out]
  go_wp2_with fail
  refine (rsigned_64 _ _).mono ?_
  rintro e w' ⟨rfl, rfl⟩
  rw [HY.out]
  go_wp2_with fail
  go_ret2
  exact ⟨rfl, rfl⟩

set_option maxRecDepth 100000 in
set_option maxHeartbeats 1000000 in
theorem rdiv64_qm (a b : Nat) (X Y : Int) (w : World) (ha : a < 18446744073709551616) (hb : b < 18446744073709551616) (hX : wrap64 (a : Int) = X) (hY : wrap64 (b : Int) = Y) (h0 : b ≠ 0) (hx : X ≠ -9223372036854775808) (hy : Y = -1) :
    Calls Tryd.prog 34 #[.int .i64 0, .int .u64 a, .int .u64 b, .int .i64 64] w fun e w' => e = .returned (.tuple #[.int .u64 (IntKind.u64.wrap (X.tdiv Y)), .bool true]) ∧ w = w' := by
  have HX := Lib.hid hX
  have HY := Lib.hid hY
  have f0 : ((b : Int) == 0) = false := beq_eq_false_iff_ne.2 (by omega)
  have hXb : -9223372036854775808 ≤ X ∧ X < 9223372036854775808 := by rw [← hX]; unfold wrap64; omega
  have hYb : -9223372036854775808 ≤ Y ∧ Y < 9223372036854775808 := by rw [← hY]; unfold wrap64; omega
  have hY0 : Y ≠ 0 := by rw [← hY]; unfold wrap64; omega
  have hq : wrap64 (X.tdiv Y) = X.tdiv Y := by
    have h9 := (show -9223372036854775808 ≤ X.tdiv Y ∧ X.tdiv Y < 9223372036854775808 by rw [hy, tdiv_m1]; omega)
    exact wr64 _ (by omega) (by omega)
  have f3 : (Y == 0) = false := beq_eq_false_iff_ne.2 hY0
  have hyo : ¬ Y = 0 := hY0
  have f1 : (X == -9223372036854775808) = false := beq_eq_false_iff_ne.2 hx
  clear h0 hXb hYb hY0 hx hy
  have HA := Lib.hid ha
  have HB := Lib.hid hb
  clear ha hb hX hY
  go_enter Tryd.func34, Tryd.ntmps34
  go_wp2_with fail
  refine (rsigned_64 _ _).mono ?_
  rintro e w' ⟨rfl, rfl⟩
  rw [HX.out]
  go_wp2_with fail
  refine (rsigned_64 _ _).mono ?_
  rintro e w' ⟨rfl, rfl⟩
  rw [HY.out]
  go_wp2_with fail
  go_ret2
  exact ⟨rfl, rfl⟩

set_option maxRecDepth 100000 in
set_option maxHeartbeats 1000000 in
theorem rdiv64_qn (a b : Nat) (X Y : Int) (w : World) (ha : a < 18446744073709551616) (hb : b < 18446744073709551616) (hX : wrap64 (a : Int) = X) (hY : wrap64 (b : Int) = Y) (h0 : b ≠ 0) (hx : X ≠ -9223372036854775808) (hy : Y ≠ -1) :
    Calls Tryd.prog 34 #[.int .i64 0, .int .u64 a, .int .u64 b, .int .i64 64] w fun e w' => e = .returned (.tuple #[.int .u64 (IntKind.u64.wrap (X.tdiv Y)), .bool true]) ∧ w = w' := by
  have HX := Lib.hid hX
  have HY := Lib.hid hY
  have f0 : ((b : Int) == 0) = false := beq_eq_false_iff_ne.2 (by omega)
  have hXb : -9223372036854775808 ≤ X ∧ X < 9223372036854775808 := by rw [← hX]; unfold wrap64; omega
  have hYb : -9223372036854775808 ≤ Y ∧ Y < 9223372036854775808 := by rw [← hY]; unfold wrap64; omega
  have hY0 : Y ≠ 0 := by rw [← hY]; unfold wrap64; omega
  have hq : wrap64 (X.tdiv Y) = X.tdiv Y := by
    have h9 := tdiv_range X Y 9223372036854775808 hXb.1 hXb.2 hY0 hy
    exact wr64 _ (by omega) (by omega)
  have f3 : (Y == 0) = false := beq_eq_false_iff_ne.2 hY0
  have hyo : ¬ Y = 0 := hY0
  have f2 : (Y == -1) = false := beq_eq_false_iff_ne.2 hy
  have f1 : (X == -9223372036854775808) = false := beq_eq_false_iff_ne.2 hx
  clear h0 hXb hYb hY0 hx hy
  have HA := Lib.hid ha
  have HB := Lib.hid hb
  clear ha hb hX hY
  go_enter Tryd.func34, Tryd.ntmps34
  go_wp2_with fail
  refine (rsigned_64 _ _).mono ?_
  rintro e w' ⟨rfl, rfl⟩
  rw [HX.out]
  go_wp2_with fail
  refine (rsigned_64 _ _).mono ?_
  rintro e w' ⟨rfl, rfl⟩
  rw [HY.out]
  go_wp2_with fail
  go_ret2
  exact ⟨rfl, rfl⟩

set_option maxRecDepth 100000 in
set_option maxHeartbeats 1000000 in
theorem rdiv64_qk (a b : Nat) (X Y : Int) (w : World) (ha : a < 18446744073709551616) (hb : b < 18446744073709551616) (hX : wrap64 (a : Int) = X) (hY : wrap64 (b : Int) = Y) (h0 : b ≠ 0) (hx : X = -9223372036854775808) (hy : Y ≠ -1) :
    Calls Tryd.prog 34 #[.int .i64 0, .int .u64 a, .int .u64 b, .int .i64 64] w fun e w' => e = .returned (.tuple #[.int .u64 (IntKind.u64.wrap (X.tdiv Y)), .bool true]) ∧ w = w' := by
  have HX := Lib.hid hX
  have HY := Lib.hid hY
  have f0 : ((b : Int) == 0) = false := beq_eq_false_iff_ne.2 (by omega)
  have hXb : -9223372036854775808 ≤ X ∧ X < 9223372036854775808 := by rw [← hX]; unfold wrap64; omega
  have hYb : -9223372036854775808 ≤ Y ∧ Y < 9223372036854775808 := by rw [← hY]; unfold wrap64; omega
  have hY0 : Y ≠ 0 := by rw [← hY]; unfold wrap64; omega
  have hq : wrap64 (X.tdiv Y) = X.tdiv Y := by
    have h9 := tdiv_range X Y 9223372036854775808 hXb.1 hXb.2 hY0 hy
    exact wr64 _ (by omega) (by omega)
  have f3 : (Y == 0) = false := beq_eq_false_iff_ne.2 hY0
  have hyo : ¬ Y = 0 := hY0
  have f2 : (Y == -1) = false := beq_eq_false_iff_ne.2 hy
  have f1 : (X == -9223372036854775808) = true := by simp [hx]
  clear h0 hXb hYb hY0 hx hy
  have HA := Lib.hid ha
  have HB := Lib.hid hb
  clear ha hb hX hY
  go_enter Tryd.func34, Tryd.ntmps34
  go_wp2_with fail
  refine (rsigned_64 _ _).mono ?_
  rintro e w' ⟨rfl, rfl⟩
  rw [HX.out]
  go_wp2_with fail
  refine (rsigned_64 _ _).mono ?_
  rintro e w' ⟨rfl, rfl⟩
  rw [HY.out]
  go_wp2_with fail
  go_ret2
  exact ⟨rfl, rfl⟩

set_option maxRecDepth 100000 in
set_option maxHeartbeats 1000000 in
theorem rdiv64_u (a b : Nat) (X Y : Int) (w : World) (ha : a < 18446744073709551616) (hb : b < 18446744073709551616) (hX : wrap64 (a : Int) = X) (hY : wrap64 (b : Int) = Y) (h0 : b ≠ 0) :
    Calls Tryd.prog 34 #[.int .i64 1, .int .u64 a, .int .u64 b, .int .i64 64] w fun e w' => e = .returned (.tuple #[.int .u64 (((a / b : Nat) : Int)), .bool true]) ∧ w = w' := by
  have HX := Lib.hid hX
  have HY := Lib.hid hY
  have f0 : ((b : Int) == 0) = false := beq_eq_false_iff_ne.2 (by omega)
  have hbo : ¬ (b : Int) = 0 := by omega
  have hqu : IntKind.u64.wrap ((a : Int) / (b : Int)) = (a : Int) / (b : Int) := by
    rw [show (a : Int) / (b : Int) = ((a / b : Nat) : Int) by rw [Int.natCast_ediv], IntKind.wrap_u64]
    have h9 := Nat.div_le_self a b
    generalize a / b = q at *
    omega
  clear h0
  have HA := Lib.hid ha
  have HB := Lib.hid hb
  clear ha hb hX hY
  go_enter Tryd.func34, Tryd.ntmps34
  go_wp2_with fail
  refine (rsigned_64 _ _).mono ?_
  rintro e w' ⟨rfl, rfl⟩
  rw [HX.out]
  go_wp2_with fail
  refine (rsigned_64 _ _).mono ?_
  rintro e w' ⟨rfl, rfl⟩
  rw [HY.out]
  go_wp2_with fail
  go_ret2
  exact ⟨retUB (by first | rfl | (push_cast; rfl)), rfl⟩

set_option maxRecDepth 100000 in
set_option maxHeartbeats 1000000 in
theorem rdiv64_r1 (a b : Nat) (X Y : Int) (w : World) (ha : a < 18446744073709551616) (hb : b < 18446744073709551616) (hX : wrap64 (a : Int) = X) (hY : wrap64 (b : Int) = Y) (h0 : b ≠ 0) (hy : Y = -1) :
    Calls Tryd.prog 34 #[.int .i64 2, .int .u64 a, .int .u64 b, .int .i64 64] w fun e w' => e = .returned (.tuple #[.int .u64 (0), .bool true]) ∧ w = w' := by
  have HX := Lib.hid hX
  have HY := Lib.hid hY
  have f0 : ((b : Int) == 0) = false := beq_eq_false_iff_ne.2 (by omega)
  have f2 : (Y == -1) = true := by simp [hy]
  clear h0 hy
  have HA := Lib.hid ha
  have HB := Lib.hid hb
  clear ha hb hX hY
  go_enter Tryd.func34, Tryd.ntmps34
  go_wp2_with fail
  refine (rsigned_64 _ _).mono ?_
  rintro e w' ⟨rfl, rfl⟩
  rw [HX.out]
  go_wp2_with fail
  refine (rsigned_64 _ _).mono ?_
  rintro e w' ⟨rfl, rfl⟩
  rw [HY.out]
  go_wp2_with fail
  go_ret2
  exact ⟨rfl, rfl⟩

set_option maxRecDepth 100000 in
set_option maxHeartbeats 1000000 in
theorem rdiv64_r (a b : Nat) (X Y : Int) (w : World) (ha : a < 18446744073709551616) (hb : b < 18446744073709551616) (hX : wrap64 (a : Int) = X) (hY : wrap64 (b : Int) = Y) (h0 : b ≠ 0) (hy : Y ≠ -1) :
    Calls Tryd.prog 34 #[.int .i64 2, .int .u64 a, .int .u64 b, .int .i64 64] w fun e w' => e = .returned (.tuple #[.int .u64 (IntKind.u64.wrap (X.tmod Y)), .bool true]) ∧ w = w' := by
  have HX := Lib.hid hX
  have HY := Lib.hid hY
  have f0 : ((b : Int) == 0) = false := beq_eq_false_iff_ne.2 (by omega)
  have hXb : -9223372036854775808 ≤ X ∧ X < 9223372036854775808 := by rw [← hX]; unfold wrap64; omega
  have hYb : -9223372036854775808 ≤ Y ∧ Y < 9223372036854775808 := by rw [← hY]; unfold wrap64; omega
  have hY0 : Y ≠ 0 := by rw [← hY]; unfold wrap64; omega
  have hq : wrap64 (X.tmod Y) = X.tmod Y := by
    have h9 := tmod_range X Y 9223372036854775808 hXb.1 hXb.2 hY0
    exact wr64 _ (by omega) (by omega)
  have f2 : (Y == -1) = false := beq_eq_false_iff_ne.2 hy
  have f3 : (Y == 0) = false := beq_eq_false_iff_ne.2 hY0
  have hyo : ¬ Y = 0 := hY0
  clear h0 hXb hYb hY0 hy
  have HA := Lib.hid ha
  have HB := Lib.hid hb
  clear ha hb hX hY
  go_enter Tryd.func34, Tryd.ntmps34
  go_wp2_with fail
  refine (rsigned_64 _ _).mono ?_
  rintro e w' ⟨rfl, rfl⟩
  rw [HX.out]
  go_wp2_with fail
  refine (rsigned_64 _ _).mono ?_
  rintro e w' ⟨rfl, rfl⟩
  rw [HY.out]
  go_wp2_with fail
  go_ret2
  exact ⟨rfl, rfl⟩

set_option maxRecDepth 100000 in
set_option maxHeartbeats 1000000 in
theorem rdiv64_ru (a b : Nat) (X Y : Int) (w : World) (ha : a < 18446744073709551616) (hb : b < 18446744073709551616) (hX : wrap64 (a : Int) = X) (hY : wrap64 (b : Int) = Y) (h0 : b ≠ 0) :
    Calls Tryd.prog 34 #[.int .i64 3, .int .u64 a, .int .u64 b, .int .i64 64] w fun e w' => e = .returned (.tuple #[.int .u64 (((a % b : Nat) : Int)), .bool true]) ∧ w = w' := by
  have HX := Lib.hid hX
  have HY := Lib.hid hY
  have f0 : ((b : Int) == 0) = false := beq_eq_false_iff_ne.2 (by omega)
  have hbo : ¬ (b : Int) = 0 := by omega
  clear h0
  have HA := Lib.hid ha
  have HB := Lib.hid hb
  clear ha hb hX hY
  go_enter Tryd.func34, Tryd.ntmps34
  go_wp2_with fail
  refine (rsigned_64 _ _).mono ?_
  rintro e w' ⟨rfl, rfl⟩
  rw [HX.out]
  go_wp2_with fail
  refine (rsigned_64 _ _).mono ?_
  rintro e w' ⟨rfl, rfl⟩
  rw [HY.out]
  go_wp2_with fail
  go_ret2
  exact ⟨retUB (by first | rfl | (push_cast; rfl)), rfl⟩
end Go.Proofs.YtebikmnegemggaaDoor.Num
