/-
  What package num's reckon32, reckon64 and Two answer. No condition beyond what each theorem names.
-/
import Derived.Test.YtebikmnegemggaaDoorNumDefs
namespace Go.Proofs.YtebikmnegemggaaDoor.Num
open Go.RowKit
set_option linter.unusedVariables false


set_option maxRecDepth 100000 in
set_option maxHeartbeats 400000 in
theorem reckon64_0 (c d : Nat) (w : World) (hc : c < 2 ^ 64) (hd : d < 2 ^ 64) : Calls Tryd.prog 31 #[.int .i64 0, .int .u64 c, .int .u64 d] w fun e w' => e = .returned (.tuple #[.int .u64 (r64 0 c d).1, .int .i64 (r64 0 c d).2]) ∧ Below w.heap.size w w' := by
  have HC := Lib.hid hc
  have HD := Lib.hid hd
  clear hc hd
  have HV := Lib.hid (r64_p 0 c d (by decide) (by decide) (by decide) (by decide))
  obtain ⟨s, hs⟩ : ∃ s : Nat, (d : Int) % 64 = (s : Int) := ⟨d % 64, by omega⟩
  have hs2 : s < 64 := by omega
  have HE := Lib.hid (show s = d % 64 by omega)
  go_enter Tryd.func31, Tryd.ntmps31
  go_wp2_with fail
  refine (rot64 c s _ HC.out (by omega) (by omega)).mono ?_
  rintro e w' ⟨rfl, rfl⟩
  go_wp2_with fail
  refine (rot64 c (-s) _ HC.out (by omega) (by omega)).mono ?_
  rintro e w' ⟨rfl, rfl⟩
  go_wp2_with fail
  go_ret2
  refine ⟨?_, (Below.refl _ _).alloc (Nat.le_refl _) _⟩
  have e := HE.out
  subst e
  rw [HV.out]
  exact retE rfl rfl

set_option maxRecDepth 100000 in
set_option maxHeartbeats 400000 in
theorem reckon64_1 (c d : Nat) (w : World) (hc : c < 2 ^ 64) (hd : d < 2 ^ 64) : Calls Tryd.prog 31 #[.int .i64 1, .int .u64 c, .int .u64 d] w fun e w' => e = .returned (.tuple #[.int .u64 (r64 1 c d).1, .int .i64 (r64 1 c d).2]) ∧ Below w.heap.size w w' := by
  have HC := Lib.hid hc
  have HD := Lib.hid hd
  clear hc hd
  have HV := Lib.hid (r64_p 1 c d (by decide) (by decide) (by decide) (by decide))
  obtain ⟨s, hs⟩ : ∃ s : Nat, (d : Int) % 64 = (s : Int) := ⟨d % 64, by omega⟩
  have hs2 : s < 64 := by omega
  have HE := Lib.hid (show s = d % 64 by omega)
  go_enter Tryd.func31, Tryd.ntmps31
  go_wp2_with fail
  refine (rot64 c s _ HC.out (by omega) (by omega)).mono ?_
  rintro e w' ⟨rfl, rfl⟩
  go_wp2_with fail
  refine (rot64 c (-s) _ HC.out (by omega) (by omega)).mono ?_
  rintro e w' ⟨rfl, rfl⟩
  go_wp2_with fail
  go_ret2
  refine ⟨?_, (Below.refl _ _).alloc (Nat.le_refl _) _⟩
  have e := HE.out
  subst e
  rw [HV.out]
  exact retE rfl rfl

set_option maxRecDepth 100000 in
set_option maxHeartbeats 400000 in
theorem reckon64_2 (c d : Nat) (w : World) (hc : c < 2 ^ 64) (hd : d < 2 ^ 64) : Calls Tryd.prog 31 #[.int .i64 2, .int .u64 c, .int .u64 d] w fun e w' => e = .returned (.tuple #[.int .u64 (r64 2 c d).1, .int .i64 (r64 2 c d).2]) ∧ Below w.heap.size w w' := by
  have HC := Lib.hid hc
  have HD := Lib.hid hd
  clear hc hd
  have HV := Lib.hid (r64_p 2 c d (by decide) (by decide) (by decide) (by decide))
  obtain ⟨s, hs⟩ : ∃ s : Nat, (d : Int) % 64 = (s : Int) := ⟨d % 64, by omega⟩
  have hs2 : s < 64 := by omega
  have HE := Lib.hid (show s = d % 64 by omega)
  go_enter Tryd.func31, Tryd.ntmps31
  go_wp2_with fail
  refine (rot64 c s _ HC.out (by omega) (by omega)).mono ?_
  rintro e w' ⟨rfl, rfl⟩
  go_wp2_with fail
  refine (rot64 c (-s) _ HC.out (by omega) (by omega)).mono ?_
  rintro e w' ⟨rfl, rfl⟩
  go_wp2_with fail
  go_ret2
  refine ⟨?_, (Below.refl _ _).alloc (Nat.le_refl _) _⟩
  have e := HE.out
  subst e
  rw [HV.out]
  exact retE rfl rfl

set_option maxRecDepth 100000 in
set_option maxHeartbeats 400000 in
theorem reckon64_3 (c d : Nat) (w : World) (hc : c < 2 ^ 64) (hd : d < 2 ^ 64) : Calls Tryd.prog 31 #[.int .i64 3, .int .u64 c, .int .u64 d] w fun e w' => e = .returned (.tuple #[.int .u64 (r64 3 c d).1, .int .i64 (r64 3 c d).2]) ∧ Below w.heap.size w w' := by
  have HC := Lib.hid hc
  have HD := Lib.hid hd
  clear hc hd
  have HV := Lib.hid (r64_3 c d)
  obtain ⟨q, hq⟩ : ∃ q, divA (-9223372036854775808) (wrap64 c) (wrap64 d) false = q := ⟨_, rfl⟩
  have HQ := Lib.hid hq
  clear hq
  obtain ⟨q1, q2⟩ := q
  cases q2
  · go_enter Tryd.func31, Tryd.ntmps31
    go_wp2_with fail
    refine (divide_i64 _ _ false _ (by unfold wrap64; omega) (by unfold wrap64; omega) (by unfold wrap64; omega) (by unfold wrap64; omega)).mono ?_
    rintro e w' ⟨rfl, rfl⟩
    rw [HQ.out]
    go_wp2_with fail
    refine (trap_no _ _).mono ?_
    rintro e w' ⟨rfl, rfl⟩
    go_wp2_with fail
    go_ret2
    refine ⟨?_, Below.refl _ _⟩
    rw [HV.out, HQ.out]
    exact retE rfl rfl
  · go_enter Tryd.func31, Tryd.ntmps31
    go_wp2_with fail
    refine (divide_i64 _ _ false _ (by unfold wrap64; omega) (by unfold wrap64; omega) (by unfold wrap64; omega) (by unfold wrap64; omega)).mono ?_
    rintro e w' ⟨rfl, rfl⟩
    rw [HQ.out]
    go_wp2_with fail
    refine (trap_yes _ _).mono ?_
    rintro e w' ⟨rfl, rfl⟩
    go_wp2_with fail
    go_ret2
    refine ⟨?_, Below.refl _ _⟩
    rw [HV.out, HQ.out]
    exact retE rfl rfl

set_option maxRecDepth 100000 in
set_option maxHeartbeats 400000 in
theorem reckon64_4 (c d : Nat) (w : World) (hc : c < 2 ^ 64) (hd : d < 2 ^ 64) : Calls Tryd.prog 31 #[.int .i64 4, .int .u64 c, .int .u64 d] w fun e w' => e = .returned (.tuple #[.int .u64 (r64 4 c d).1, .int .i64 (r64 4 c d).2]) ∧ Below w.heap.size w w' := by
  have HC := Lib.hid hc
  have HD := Lib.hid hd
  clear hc hd
  have HV := Lib.hid (r64_4 c d)
  obtain ⟨q, hq⟩ : ∃ q, divU c d false = q := ⟨_, rfl⟩
  have HQ := Lib.hid hq
  have hq1 : 0 ≤ q.1 ∧ q.1 < 18446744073709551616 := by
    rw [← hq]
    unfold divU
    have h0 := HC.out
    split
    · exact ⟨by simp, by simp⟩
    · have h1 := Int.ediv_nonneg (Int.natCast_nonneg c) (Int.natCast_nonneg d)
      have h2 := Int.ediv_le_self (b := (d : Int)) (Int.natCast_nonneg c)
      have h3 := Int.emod_nonneg (c : Int) (show (d : Int) ≠ 0 by assumption)
      have h4 := Int.emod_lt_of_pos (c : Int) (show (0 : Int) < d by omega)
      have h5 := HD.out
      first
      | (rw [if_pos rfl]; simp only []; omega)
      | (rw [if_neg (by decide)]; simp only []; omega)
  clear hq
  obtain ⟨q1, q2⟩ := q
  obtain ⟨hq1, hq2⟩ := hq1
  simp only [] at hq1 hq2
  skip
  clear hq1 hq2
  cases q2
  · go_enter Tryd.func31, Tryd.ntmps31
    go_wp2_with fail
    refine (divideU_u64 _ _ false _ (by omega) (by have := HC.out; omega) (by omega)).mono ?_
    rintro e w' ⟨rfl, rfl⟩
    rw [HQ.out]
    go_wp2_with fail
    refine (trap_no _ _).mono ?_
    rintro e w' ⟨rfl, rfl⟩
    go_wp2_with fail
    go_ret2
    refine ⟨?_, Below.refl _ _⟩
    rw [HV.out, HQ.out]
    exact retE rfl rfl
  · go_enter Tryd.func31, Tryd.ntmps31
    go_wp2_with fail
    refine (divideU_u64 _ _ false _ (by omega) (by have := HC.out; omega) (by omega)).mono ?_
    rintro e w' ⟨rfl, rfl⟩
    rw [HQ.out]
    go_wp2_with fail
    refine (trap_yes _ _).mono ?_
    rintro e w' ⟨rfl, rfl⟩
    go_wp2_with fail
    go_ret2
    refine ⟨?_, Below.refl _ _⟩
    rw [HV.out, HQ.out]
    exact retE rfl rfl

set_option maxRecDepth 100000 in
set_option maxHeartbeats 400000 in
theorem reckon64_5 (c d : Nat) (w : World) (hc : c < 2 ^ 64) (hd : d < 2 ^ 64) : Calls Tryd.prog 31 #[.int .i64 5, .int .u64 c, .int .u64 d] w fun e w' => e = .returned (.tuple #[.int .u64 (r64 5 c d).1, .int .i64 (r64 5 c d).2]) ∧ Below w.heap.size w w' := by
  have HC := Lib.hid hc
  have HD := Lib.hid hd
  clear hc hd
  have HV := Lib.hid (r64_5 c d)
  obtain ⟨q, hq⟩ : ∃ q, divA (-9223372036854775808) (wrap64 c) (wrap64 d) true = q := ⟨_, rfl⟩
  have HQ := Lib.hid hq
  clear hq
  obtain ⟨q1, q2⟩ := q
  cases q2
  · go_enter Tryd.func31, Tryd.ntmps31
    go_wp2_with fail
    refine (divide_i64 _ _ true _ (by unfold wrap64; omega) (by unfold wrap64; omega) (by unfold wrap64; omega) (by unfold wrap64; omega)).mono ?_
    rintro e w' ⟨rfl, rfl⟩
    rw [HQ.out]
    go_wp2_with fail
    refine (trap_no _ _).mono ?_
    rintro e w' ⟨rfl, rfl⟩
    go_wp2_with fail
    go_ret2
    refine ⟨?_, Below.refl _ _⟩
    rw [HV.out, HQ.out]
    exact retE rfl rfl
  · go_enter Tryd.func31, Tryd.ntmps31
    go_wp2_with fail
    refine (divide_i64 _ _ true _ (by unfold wrap64; omega) (by unfold wrap64; omega) (by unfold wrap64; omega) (by unfold wrap64; omega)).mono ?_
    rintro e w' ⟨rfl, rfl⟩
    rw [HQ.out]
    go_wp2_with fail
    refine (trap_yes _ _).mono ?_
    rintro e w' ⟨rfl, rfl⟩
    go_wp2_with fail
    go_ret2
    refine ⟨?_, Below.refl _ _⟩
    rw [HV.out, HQ.out]
    exact retE rfl rfl

set_option maxRecDepth 100000 in
set_option maxHeartbeats 400000 in
theorem reckon64_6 (c d : Nat) (w : World) (hc : c < 2 ^ 64) (hd : d < 2 ^ 64) : Calls Tryd.prog 31 #[.int .i64 6, .int .u64 c, .int .u64 d] w fun e w' => e = .returned (.tuple #[.int .u64 (r64 6 c d).1, .int .i64 (r64 6 c d).2]) ∧ Below w.heap.size w w' := by
  have HC := Lib.hid hc
  have HD := Lib.hid hd
  clear hc hd
  have HV := Lib.hid (r64_6 c d)
  obtain ⟨q, hq⟩ : ∃ q, divU c d true = q := ⟨_, rfl⟩
  have HQ := Lib.hid hq
  have hq1 : 0 ≤ q.1 ∧ q.1 < 18446744073709551616 := by
    rw [← hq]
    unfold divU
    have h0 := HC.out
    split
    · exact ⟨by simp, by simp⟩
    · have h1 := Int.ediv_nonneg (Int.natCast_nonneg c) (Int.natCast_nonneg d)
      have h2 := Int.ediv_le_self (b := (d : Int)) (Int.natCast_nonneg c)
      have h3 := Int.emod_nonneg (c : Int) (show (d : Int) ≠ 0 by assumption)
      have h4 := Int.emod_lt_of_pos (c : Int) (show (0 : Int) < d by omega)
      have h5 := HD.out
      first
      | (rw [if_pos rfl]; simp only []; omega)
      | (rw [if_neg (by decide)]; simp only []; omega)
  clear hq
  obtain ⟨q1, q2⟩ := q
  obtain ⟨hq1, hq2⟩ := hq1
  simp only [] at hq1 hq2
  skip
  clear hq1 hq2
  cases q2
  · go_enter Tryd.func31, Tryd.ntmps31
    go_wp2_with fail
    refine (divideU_u64 _ _ true _ (by omega) (by have := HC.out; omega) (by omega)).mono ?_
    rintro e w' ⟨rfl, rfl⟩
    rw [HQ.out]
    go_wp2_with fail
    refine (trap_no _ _).mono ?_
    rintro e w' ⟨rfl, rfl⟩
    go_wp2_with fail
    go_ret2
    refine ⟨?_, Below.refl _ _⟩
    rw [HV.out, HQ.out]
    exact retE rfl rfl
  · go_enter Tryd.func31, Tryd.ntmps31
    go_wp2_with fail
    refine (divideU_u64 _ _ true _ (by omega) (by have := HC.out; omega) (by omega)).mono ?_
    rintro e w' ⟨rfl, rfl⟩
    rw [HQ.out]
    go_wp2_with fail
    refine (trap_yes _ _).mono ?_
    rintro e w' ⟨rfl, rfl⟩
    go_wp2_with fail
    go_ret2
    refine ⟨?_, Below.refl _ _⟩
    rw [HV.out, HQ.out]
    exact retE rfl rfl

set_option maxRecDepth 100000 in
set_option maxHeartbeats 400000 in
theorem reckon64_7 (c d : Nat) (w : World) (hc : c < 2 ^ 64) (hd : d < 2 ^ 64) : Calls Tryd.prog 31 #[.int .i64 7, .int .u64 c, .int .u64 d] w fun e w' => e = .returned (.tuple #[.int .u64 (r64 7 c d).1, .int .i64 (r64 7 c d).2]) ∧ Below w.heap.size w w' := by
  have HC := Lib.hid hc
  have HD := Lib.hid hd
  clear hc hd
  have HV := Lib.hid (r64_p 7 c d (by decide) (by decide) (by decide) (by decide))
  obtain ⟨s, hs⟩ : ∃ s : Nat, (d : Int) % 64 = (s : Int) := ⟨d % 64, by omega⟩
  have hs2 : s < 64 := by omega
  have HE := Lib.hid (show s = d % 64 by omega)
  go_enter Tryd.func31, Tryd.ntmps31
  go_wp2_with fail
  refine (rot64 c s _ HC.out (by omega) (by omega)).mono ?_
  rintro e w' ⟨rfl, rfl⟩
  go_wp2_with fail
  refine (rot64 c (-s) _ HC.out (by omega) (by omega)).mono ?_
  rintro e w' ⟨rfl, rfl⟩
  go_wp2_with fail
  go_ret2
  refine ⟨?_, (Below.refl _ _).alloc (Nat.le_refl _) _⟩
  have e := HE.out
  subst e
  rw [HV.out]
  exact retE rfl rfl

set_option maxRecDepth 100000 in
set_option maxHeartbeats 400000 in
theorem reckon64_8 (c d : Nat) (w : World) (hc : c < 2 ^ 64) (hd : d < 2 ^ 64) : Calls Tryd.prog 31 #[.int .i64 8, .int .u64 c, .int .u64 d] w fun e w' => e = .returned (.tuple #[.int .u64 (r64 8 c d).1, .int .i64 (r64 8 c d).2]) ∧ Below w.heap.size w w' := by
  have HC := Lib.hid hc
  have HD := Lib.hid hd
  clear hc hd
  have HV := Lib.hid (r64_p 8 c d (by decide) (by decide) (by decide) (by decide))
  obtain ⟨s, hs⟩ : ∃ s : Nat, (d : Int) % 64 = (s : Int) := ⟨d % 64, by omega⟩
  have hs2 : s < 64 := by omega
  have HE := Lib.hid (show s = d % 64 by omega)
  go_enter Tryd.func31, Tryd.ntmps31
  go_wp2_with fail
  refine (rot64 c s _ HC.out (by omega) (by omega)).mono ?_
  rintro e w' ⟨rfl, rfl⟩
  go_wp2_with fail
  refine (rot64 c (-s) _ HC.out (by omega) (by omega)).mono ?_
  rintro e w' ⟨rfl, rfl⟩
  go_wp2_with fail
  go_ret2
  refine ⟨?_, (Below.refl _ _).alloc (Nat.le_refl _) _⟩
  have e := HE.out
  subst e
  rw [HV.out]
  exact retE rfl rfl

set_option maxRecDepth 100000 in
set_option maxHeartbeats 400000 in
theorem reckon64_9 (c d : Nat) (w : World) (hc : c < 2 ^ 64) (hd : d < 2 ^ 64) : Calls Tryd.prog 31 #[.int .i64 9, .int .u64 c, .int .u64 d] w fun e w' => e = .returned (.tuple #[.int .u64 (r64 9 c d).1, .int .i64 (r64 9 c d).2]) ∧ Below w.heap.size w w' := by
  have HC := Lib.hid hc
  have HD := Lib.hid hd
  clear hc hd
  have HV := Lib.hid (r64_p 9 c d (by decide) (by decide) (by decide) (by decide))
  obtain ⟨s, hs⟩ : ∃ s : Nat, (d : Int) % 64 = (s : Int) := ⟨d % 64, by omega⟩
  have hs2 : s < 64 := by omega
  have HE := Lib.hid (show s = d % 64 by omega)
  go_enter Tryd.func31, Tryd.ntmps31
  go_wp2_with fail
  refine (rot64 c s _ HC.out (by omega) (by omega)).mono ?_
  rintro e w' ⟨rfl, rfl⟩
  go_wp2_with fail
  refine (rot64 c (-s) _ HC.out (by omega) (by omega)).mono ?_
  rintro e w' ⟨rfl, rfl⟩
  go_wp2_with fail
  go_ret2
  refine ⟨?_, (Below.refl _ _).alloc (Nat.le_refl _) _⟩
  have e := HE.out
  subst e
  rw [HV.out]
  exact retE rfl rfl

set_option maxRecDepth 100000 in
set_option maxHeartbeats 400000 in
theorem reckon64_10 (c d : Nat) (w : World) (hc : c < 2 ^ 64) (hd : d < 2 ^ 64) : Calls Tryd.prog 31 #[.int .i64 10, .int .u64 c, .int .u64 d] w fun e w' => e = .returned (.tuple #[.int .u64 (r64 10 c d).1, .int .i64 (r64 10 c d).2]) ∧ Below w.heap.size w w' := by
  have HC := Lib.hid hc
  have HD := Lib.hid hd
  clear hc hd
  have HV := Lib.hid (r64_p 10 c d (by decide) (by decide) (by decide) (by decide))
  obtain ⟨s, hs⟩ : ∃ s : Nat, (d : Int) % 64 = (s : Int) := ⟨d % 64, by omega⟩
  have hs2 : s < 64 := by omega
  have HE := Lib.hid (show s = d % 64 by omega)
  go_enter Tryd.func31, Tryd.ntmps31
  go_wp2_with fail
  refine (rot64 c s _ HC.out (by omega) (by omega)).mono ?_
  rintro e w' ⟨rfl, rfl⟩
  go_wp2_with fail
  refine (rot64 c (-s) _ HC.out (by omega) (by omega)).mono ?_
  rintro e w' ⟨rfl, rfl⟩
  go_wp2_with fail
  go_ret2
  refine ⟨?_, (Below.refl _ _).alloc (Nat.le_refl _) _⟩
  have e := HE.out
  subst e
  rw [HV.out]
  exact retE rfl rfl

set_option maxRecDepth 100000 in
set_option maxHeartbeats 400000 in
theorem reckon64_11 (c d : Nat) (w : World) (hc : c < 2 ^ 64) (hd : d < 2 ^ 64) : Calls Tryd.prog 31 #[.int .i64 11, .int .u64 c, .int .u64 d] w fun e w' => e = .returned (.tuple #[.int .u64 (r64 11 c d).1, .int .i64 (r64 11 c d).2]) ∧ Below w.heap.size w w' := by
  have HC := Lib.hid hc
  have HD := Lib.hid hd
  clear hc hd
  have HV := Lib.hid (r64_p 11 c d (by decide) (by decide) (by decide) (by decide))
  obtain ⟨s, hs⟩ : ∃ s : Nat, (d : Int) % 64 = (s : Int) := ⟨d % 64, by omega⟩
  have hs2 : s < 64 := by omega
  have HE := Lib.hid (show s = d % 64 by omega)
  go_enter Tryd.func31, Tryd.ntmps31
  go_wp2_with fail
  refine (rot64 c s _ HC.out (by omega) (by omega)).mono ?_
  rintro e w' ⟨rfl, rfl⟩
  go_wp2_with fail
  refine (rot64 c (-s) _ HC.out (by omega) (by omega)).mono ?_
  rintro e w' ⟨rfl, rfl⟩
  go_wp2_with fail
  go_ret2
  refine ⟨?_, (Below.refl _ _).alloc (Nat.le_refl _) _⟩
  have e := HE.out
  subst e
  rw [HV.out]
  exact retE rfl rfl

set_option maxRecDepth 100000 in
set_option maxHeartbeats 400000 in
theorem reckon64_12 (c d : Nat) (w : World) (hc : c < 2 ^ 64) (hd : d < 2 ^ 64) : Calls Tryd.prog 31 #[.int .i64 12, .int .u64 c, .int .u64 d] w fun e w' => e = .returned (.tuple #[.int .u64 (r64 12 c d).1, .int .i64 (r64 12 c d).2]) ∧ Below w.heap.size w w' := by
  have HC := Lib.hid hc
  have HD := Lib.hid hd
  clear hc hd
  have HV := Lib.hid (r64_p 12 c d (by decide) (by decide) (by decide) (by decide))
  obtain ⟨s, hs⟩ : ∃ s : Nat, (d : Int) % 64 = (s : Int) := ⟨d % 64, by omega⟩
  have hs2 : s < 64 := by omega
  have HE := Lib.hid (show s = d % 64 by omega)
  go_enter Tryd.func31, Tryd.ntmps31
  go_wp2_with fail
  refine (rot64 c s _ HC.out (by omega) (by omega)).mono ?_
  rintro e w' ⟨rfl, rfl⟩
  go_wp2_with fail
  refine (rot64 c (-s) _ HC.out (by omega) (by omega)).mono ?_
  rintro e w' ⟨rfl, rfl⟩
  go_wp2_with fail
  go_ret2
  refine ⟨?_, (Below.refl _ _).alloc (Nat.le_refl _) _⟩
  have e := HE.out
  subst e
  rw [HV.out]
  exact retE rfl rfl

set_option maxRecDepth 100000 in
set_option maxHeartbeats 400000 in
theorem reckon64_13 (c d : Nat) (w : World) (hc : c < 2 ^ 64) (hd : d < 2 ^ 64) : Calls Tryd.prog 31 #[.int .i64 13, .int .u64 c, .int .u64 d] w fun e w' => e = .returned (.tuple #[.int .u64 (r64 13 c d).1, .int .i64 (r64 13 c d).2]) ∧ Below w.heap.size w w' := by
  have HC := Lib.hid hc
  have HD := Lib.hid hd
  clear hc hd
  have HV := Lib.hid (r64_p 13 c d (by decide) (by decide) (by decide) (by decide))
  obtain ⟨s, hs⟩ : ∃ s : Nat, (d : Int) % 64 = (s : Int) := ⟨d % 64, by omega⟩
  have hs2 : s < 64 := by omega
  have HE := Lib.hid (show s = d % 64 by omega)
  go_enter Tryd.func31, Tryd.ntmps31
  go_wp2_with fail
  refine (rot64 c s _ HC.out (by omega) (by omega)).mono ?_
  rintro e w' ⟨rfl, rfl⟩
  go_wp2_with fail
  refine (rot64 c (-s) _ HC.out (by omega) (by omega)).mono ?_
  rintro e w' ⟨rfl, rfl⟩
  go_wp2_with fail
  go_ret2
  refine ⟨?_, (Below.refl _ _).alloc (Nat.le_refl _) _⟩
  have e := HE.out
  subst e
  rw [HV.out]
  refine retE ?_ rfl
  show ((rotl 64 c (d % 64 % 64) : Nat) : Int) = ((rotl 64 c (d % 64) : Nat) : Int)
  rw [Nat.mod_mod]

set_option maxRecDepth 100000 in
set_option maxHeartbeats 400000 in
theorem reckon64_14 (c d : Nat) (w : World) (hc : c < 2 ^ 64) (hd : d < 2 ^ 64) : Calls Tryd.prog 31 #[.int .i64 14, .int .u64 c, .int .u64 d] w fun e w' => e = .returned (.tuple #[.int .u64 (r64 14 c d).1, .int .i64 (r64 14 c d).2]) ∧ Below w.heap.size w w' := by
  have HC := Lib.hid hc
  have HD := Lib.hid hd
  clear hc hd
  have HV := Lib.hid (r64_p 14 c d (by decide) (by decide) (by decide) (by decide))
  obtain ⟨s, hs⟩ : ∃ s : Nat, (d : Int) % 64 = (s : Int) := ⟨d % 64, by omega⟩
  have hs2 : s < 64 := by omega
  have HE := Lib.hid (show s = d % 64 by omega)
  go_enter Tryd.func31, Tryd.ntmps31
  go_wp2_with fail
  refine (rot64 c s _ HC.out (by omega) (by omega)).mono ?_
  rintro e w' ⟨rfl, rfl⟩
  go_wp2_with fail
  refine (rot64 c (-s) _ HC.out (by omega) (by omega)).mono ?_
  rintro e w' ⟨rfl, rfl⟩
  go_wp2_with fail
  go_ret2
  refine ⟨?_, (Below.refl _ _).alloc (Nat.le_refl _) _⟩
  have e := HE.out
  subst e
  rw [HV.out]
  refine retE ?_ rfl
  show ((rotl 64 c (-((d % 64 : Nat) : Int) % 64).toNat : Nat) : Int) = ((rotl 64 c ((64 - d % 64) % 64) : Nat) : Int)
  rw [show (-((d % 64 : Nat) : Int) % 64).toNat = (64 - d % 64) % 64 by omega]

theorem reckon64_any (kind : Int) (c d : Nat) (w : World) (h0 : 0 ≤ kind) (h1 : kind ≤ 14) (hc : c < 2 ^ 64) (hd : d < 2 ^ 64) : Calls Tryd.prog 31 #[.int .i64 kind, .int .u64 c, .int .u64 d] w fun e w' => e = .returned (.tuple #[.int .u64 (r64 kind.toNat c d).1, .int .i64 (r64 kind.toNat c d).2]) ∧ Below w.heap.size w w' := by
  rcases (show kind = 0 ∨ kind = 1 ∨ kind = 2 ∨ kind = 3 ∨ kind = 4 ∨ kind = 5 ∨ kind = 6 ∨ kind = 7 ∨ kind = 8 ∨ kind = 9 ∨ kind = 10 ∨ kind = 11 ∨ kind = 12 ∨ kind = 13 ∨ kind = 14 by omega) with rfl | rfl | rfl | rfl | rfl | rfl | rfl | rfl | rfl | rfl | rfl | rfl | rfl | rfl | rfl
  · exact reckon64_0 c d w hc hd
  · exact reckon64_1 c d w hc hd
  · exact reckon64_2 c d w hc hd
  · exact reckon64_3 c d w hc hd
  · exact reckon64_4 c d w hc hd
  · exact reckon64_5 c d w hc hd
  · exact reckon64_6 c d w hc hd
  · exact reckon64_7 c d w hc hd
  · exact reckon64_8 c d w hc hd
  · exact reckon64_9 c d w hc hd
  · exact reckon64_10 c d w hc hd
  · exact reckon64_11 c d w hc hd
  · exact reckon64_12 c d w hc hd
  · exact reckon64_13 c d w hc hd
  · exact reckon64_14 c d w hc hd
end Go.Proofs.YtebikmnegemggaaDoor.Num
