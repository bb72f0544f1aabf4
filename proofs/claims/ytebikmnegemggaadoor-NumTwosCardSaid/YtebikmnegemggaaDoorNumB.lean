/-
  What package num's reckon32, reckon64 and Two answer. No condition beyond what each theorem names.
-/
import Derived.Test.YtebikmnegemggaaDoorNumDefs
namespace Go.Proofs.YtebikmnegemggaaDoor.Num
open Go.RowKit
set_option linter.unusedVariables false


set_option maxRecDepth 100000 in
set_option maxHeartbeats 400000 in
theorem reckon32_0 (c d : Nat) (w : World) (hc : c < 2 ^ 32) (hd : d < 2 ^ 32) : Calls Tryd.prog 30 #[.int .i64 0, .int .u32 c, .int .u32 d] w fun e w' => e = .returned (.tuple #[.int .u64 (r32 0 c d).1, .int .i64 (r32 0 c d).2]) ∧ Below w.heap.size w w' := by
  have HC := Lib.hid hc
  have HD := Lib.hid hd
  clear hc hd
  have HV := Lib.hid (r32_p 0 c d (by decide) (by decide) (by decide) (by decide))
  obtain ⟨s, hs⟩ : ∃ s : Nat, (d : Int) % 32 = (s : Int) := ⟨d % 32, by omega⟩
  have hs2 : s < 32 := by omega
  have HE := Lib.hid (show s = d % 32 by omega)
  go_enter Tryd.func30, Tryd.ntmps30
  go_wp2_with fail
  refine (rot32 c s _ HC.out (by omega) (by omega)).mono ?_
  rintro e w' ⟨rfl, rfl⟩
  go_wp2_with fail
  refine (rot32 c (-s) _ HC.out (by omega) (by omega)).mono ?_
  rintro e w' ⟨rfl, rfl⟩
  go_wp2_with fail
  go_ret2
  refine ⟨?_, (Below.refl _ _).alloc (Nat.le_refl _) _⟩
  have e := HE.out
  subst e
  rw [HV.out]
  exact retE rfl rfl

set_option maxRecDepth 100000 in
set_option maxHeartbeats 400000 in
theorem reckon32_1 (c d : Nat) (w : World) (hc : c < 2 ^ 32) (hd : d < 2 ^ 32) : Calls Tryd.prog 30 #[.int .i64 1, .int .u32 c, .int .u32 d] w fun e w' => e = .returned (.tuple #[.int .u64 (r32 1 c d).1, .int .i64 (r32 1 c d).2]) ∧ Below w.heap.size w w' := by
  have HC := Lib.hid hc
  have HD := Lib.hid hd
  clear hc hd
  have HV := Lib.hid (r32_p 1 c d (by decide) (by decide) (by decide) (by decide))
  obtain ⟨s, hs⟩ : ∃ s : Nat, (d : Int) % 32 = (s : Int) := ⟨d % 32, by omega⟩
  have hs2 : s < 32 := by omega
  have HE := Lib.hid (show s = d % 32 by omega)
  go_enter Tryd.func30, Tryd.ntmps30
  go_wp2_with fail
  refine (rot32 c s _ HC.out (by omega) (by omega)).mono ?_
  rintro e w' ⟨rfl, rfl⟩
  go_wp2_with fail
  refine (rot32 c (-s) _ HC.out (by omega) (by omega)).mono ?_
  rintro e w' ⟨rfl, rfl⟩
  go_wp2_with fail
  go_ret2
  refine ⟨?_, (Below.refl _ _).alloc (Nat.le_refl _) _⟩
  have e := HE.out
  subst e
  rw [HV.out]
  exact retE rfl rfl

set_option maxRecDepth 100000 in
set_option maxHeartbeats 400000 in
theorem reckon32_2 (c d : Nat) (w : World) (hc : c < 2 ^ 32) (hd : d < 2 ^ 32) : Calls Tryd.prog 30 #[.int .i64 2, .int .u32 c, .int .u32 d] w fun e w' => e = .returned (.tuple #[.int .u64 (r32 2 c d).1, .int .i64 (r32 2 c d).2]) ∧ Below w.heap.size w w' := by
  have HC := Lib.hid hc
  have HD := Lib.hid hd
  clear hc hd
  have HV := Lib.hid (r32_p 2 c d (by decide) (by decide) (by decide) (by decide))
  obtain ⟨s, hs⟩ : ∃ s : Nat, (d : Int) % 32 = (s : Int) := ⟨d % 32, by omega⟩
  have hs2 : s < 32 := by omega
  have HE := Lib.hid (show s = d % 32 by omega)
  go_enter Tryd.func30, Tryd.ntmps30
  go_wp2_with fail
  refine (rot32 c s _ HC.out (by omega) (by omega)).mono ?_
  rintro e w' ⟨rfl, rfl⟩
  go_wp2_with fail
  refine (rot32 c (-s) _ HC.out (by omega) (by omega)).mono ?_
  rintro e w' ⟨rfl, rfl⟩
  go_wp2_with fail
  go_ret2
  refine ⟨?_, (Below.refl _ _).alloc (Nat.le_refl _) _⟩
  have e := HE.out
  subst e
  rw [HV.out]
  exact retE rfl rfl

set_option maxRecDepth 100000 in
set_option maxHeartbeats 400000 in
theorem reckon32_3 (c d : Nat) (w : World) (hc : c < 2 ^ 32) (hd : d < 2 ^ 32) : Calls Tryd.prog 30 #[.int .i64 3, .int .u32 c, .int .u32 d] w fun e w' => e = .returned (.tuple #[.int .u64 (r32 3 c d).1, .int .i64 (r32 3 c d).2]) ∧ Below w.heap.size w w' := by
  have HC := Lib.hid hc
  have HD := Lib.hid hd
  clear hc hd
  have HV := Lib.hid (r32_3 c d)
  obtain ⟨q, hq⟩ : ∃ q, divA (-2147483648) (wrap32 c) (wrap32 d) false = q := ⟨_, rfl⟩
  have HQ := Lib.hid hq
  clear hq
  obtain ⟨q1, q2⟩ := q
  cases q2
  · go_enter Tryd.func30, Tryd.ntmps30
    go_wp2_with fail
    refine (divide_i32 _ _ false _ (by unfold wrap32; omega) (by unfold wrap32; omega) (by unfold wrap32; omega) (by unfold wrap32; omega)).mono ?_
    rintro e w' ⟨rfl, rfl⟩
    rw [HQ.out]
    go_wp2_with fail
    refine (trap_no _ _).mono ?_
    rintro e w' ⟨rfl, rfl⟩
    go_wp2_with fail
    go_ret2
    refine ⟨?_, Below.refl _ _⟩
    rw [HV.out, HQ.out]
    exact retE rfl rfl
  · go_enter Tryd.func30, Tryd.ntmps30
    go_wp2_with fail
    refine (divide_i32 _ _ false _ (by unfold wrap32; omega) (by unfold wrap32; omega) (by unfold wrap32; omega) (by unfold wrap32; omega)).mono ?_
    rintro e w' ⟨rfl, rfl⟩
    rw [HQ.out]
    go_wp2_with fail
    refine (trap_yes _ _).mono ?_
    rintro e w' ⟨rfl, rfl⟩
    go_wp2_with fail
    go_ret2
    refine ⟨?_, Below.refl _ _⟩
    rw [HV.out, HQ.out]
    exact retE rfl rfl

set_option maxRecDepth 100000 in
set_option maxHeartbeats 400000 in
theorem reckon32_4 (c d : Nat) (w : World) (hc : c < 2 ^ 32) (hd : d < 2 ^ 32) : Calls Tryd.prog 30 #[.int .i64 4, .int .u32 c, .int .u32 d] w fun e w' => e = .returned (.tuple #[.int .u64 (r32 4 c d).1, .int .i64 (r32 4 c d).2]) ∧ Below w.heap.size w w' := by
  have HC := Lib.hid hc
  have HD := Lib.hid hd
  clear hc hd
  have HV := Lib.hid (r32_4 c d)
  obtain ⟨q, hq⟩ : ∃ q, divU c d false = q := ⟨_, rfl⟩
  have HQ := Lib.hid hq
  have hq1 : 0 ≤ q.1 ∧ q.1 < 4294967296 := by
    rw [← hq]
    unfold divU
    have h0 := HC.out
    split
    · exact ⟨by simp, by simp⟩
    · have h1 := Int.ediv_nonneg (Int.natCast_nonneg c) (Int.natCast_nonneg d)
      have h2 := Int.ediv_le_self (b := (d : Int)) (Int.natCast_nonneg c)
      have h3 := Int.emod_nonneg (c : Int) (show (d : Int) ≠ 0 by assumption)
      have h4 := Int.emod_lt_of_pos (c : Int) (show (0 : Int) < d by omega)
      have h5 := HD.out
      first
      | (rw [if_pos rfl]; simp only []; omega)
      | (rw [if_neg (by decide)]; simp only []; omega)
  clear hq
  obtain ⟨q1, q2⟩ := q
  obtain ⟨hq1, hq2⟩ := hq1
  simp only [] at hq1 hq2
  have hw : IntKind.u64.wrap q1 = q1 := by rw [IntKind.wrap_u64]; omega
  clear hq1 hq2
  cases q2
  · go_enter Tryd.func30, Tryd.ntmps30
    go_wp2_with fail
    refine (divideU_u32 _ _ false _ (by omega) (by have := HC.out; omega) (by omega)).mono ?_
    rintro e w' ⟨rfl, rfl⟩
    rw [HQ.out]
    go_wp2_with fail
    refine (trap_no _ _).mono ?_
    rintro e w' ⟨rfl, rfl⟩
    go_wp2_with fail
    go_ret2
    refine ⟨?_, Below.refl _ _⟩
    rw [HV.out, HQ.out]
    exact retE rfl rfl
  · go_enter Tryd.func30, Tryd.ntmps30
    go_wp2_with fail
    refine (divideU_u32 _ _ false _ (by omega) (by have := HC.out; omega) (by omega)).mono ?_
    rintro e w' ⟨rfl, rfl⟩
    rw [HQ.out]
    go_wp2_with fail
    refine (trap_yes _ _).mono ?_
    rintro e w' ⟨rfl, rfl⟩
    go_wp2_with fail
    go_ret2
    refine ⟨?_, Below.refl _ _⟩
    rw [HV.out, HQ.out]
    exact retE rfl rfl

set_option maxRecDepth 100000 in
set_option maxHeartbeats 400000 in
theorem reckon32_5 (c d : Nat) (w : World) (hc : c < 2 ^ 32) (hd : d < 2 ^ 32) : Calls Tryd.prog 30 #[.int .i64 5, .int .u32 c, .int .u32 d] w fun e w' => e = .returned (.tuple #[.int .u64 (r32 5 c d).1, .int .i64 (r32 5 c d).2]) ∧ Below w.heap.size w w' := by
  have HC := Lib.hid hc
  have HD := Lib.hid hd
  clear hc hd
  have HV := Lib.hid (r32_5 c d)
  obtain ⟨q, hq⟩ : ∃ q, divA (-2147483648) (wrap32 c) (wrap32 d) true = q := ⟨_, rfl⟩
  have HQ := Lib.hid hq
  clear hq
  obtain ⟨q1, q2⟩ := q
  cases q2
  · go_enter Tryd.func30, Tryd.ntmps30
    go_wp2_with fail
    refine (divide_i32 _ _ true _ (by unfold wrap32; omega) (by unfold wrap32; omega) (by unfold wrap32; omega) (by unfold wrap32; omega)).mono ?_
    rintro e w' ⟨rfl, rfl⟩
    rw [HQ.out]
    go_wp2_with fail
    refine (trap_no _ _).mono ?_
    rintro e w' ⟨rfl, rfl⟩
    go_wp2_with fail
    go_ret2
    refine ⟨?_, Below.refl _ _⟩
    rw [HV.out, HQ.out]
    exact retE rfl rfl
  · go_enter Tryd.func30, Tryd.ntmps30
    go_wp2_with fail
    refine (divide_i32 _ _ true _ (by unfold wrap32; omega) (by unfold wrap32; omega) (by unfold wrap32; omega) (by unfold wrap32; omega)).mono ?_
    rintro e w' ⟨rfl, rfl⟩
    rw [HQ.out]
    go_wp2_with fail
    refine (trap_yes _ _).mono ?_
    rintro e w' ⟨rfl, rfl⟩
    go_wp2_with fail
    go_ret2
    refine ⟨?_, Below.refl _ _⟩
    rw [HV.out, HQ.out]
    exact retE rfl rfl

set_option maxRecDepth 100000 in
set_option maxHeartbeats 400000 in
theorem reckon32_6 (c d : Nat) (w : World) (hc : c < 2 ^ 32) (hd : d < 2 ^ 32) : Calls Tryd.prog 30 #[.int .i64 6, .int .u32 c, .int .u32 d] w fun e w' => e = .returned (.tuple #[.int .u64 (r32 6 c d).1, .int .i64 (r32 6 c d).2]) ∧ Below w.heap.size w w' := by
  have HC := Lib.hid hc
  have HD := Lib.hid hd
  clear hc hd
  have HV := Lib.hid (r32_6 c d)
  obtain ⟨q, hq⟩ : ∃ q, divU c d true = q := ⟨_, rfl⟩
  have HQ := Lib.hid hq
  have hq1 : 0 ≤ q.1 ∧ q.1 < 4294967296 := by
    rw [← hq]
    unfold divU
    have h0 := HC.out
    split
    · exact ⟨by simp, by simp⟩
    · have h1 := Int.ediv_nonneg (Int.natCast_nonneg c) (Int.natCast_nonneg d)
      have h2 := Int.ediv_le_self (b := (d : Int)) (Int.natCast_nonneg c)
      have h3 := Int.emod_nonneg (c : Int) (show (d : Int) ≠ 0 by assumption)
      have h4 := Int.emod_lt_of_pos (c : Int) (show (0 : Int) < d by omega)
      have h5 := HD.out
      first
      | (rw [if_pos rfl]; simp only []; omega)
      | (rw [if_neg (by decide)]; simp only []; omega)
  clear hq
  obtain ⟨q1, q2⟩ := q
  obtain ⟨hq1, hq2⟩ := hq1
  simp only [] at hq1 hq2
  have hw : IntKind.u64.wrap q1 = q1 := by rw [IntKind.wrap_u64]; omega
  clear hq1 hq2
  cases q2
  · go_enter Tryd.func30, Tryd.ntmps30
    go_wp2_with fail
    refine (divideU_u32 _ _ true _ (by omega) (by have := HC.out; omega) (by omega)).mono ?_
    rintro e w' ⟨rfl, rfl⟩
    rw [HQ.out]
    go_wp2_with fail
    refine (trap_no _ _).mono ?_
    rintro e w' ⟨rfl, rfl⟩
    go_wp2_with fail
    go_ret2
    refine ⟨?_, Below.refl _ _⟩
    rw [HV.out, HQ.out]
    exact retE rfl rfl
  · go_enter Tryd.func30, Tryd.ntmps30
    go_wp2_with fail
    refine (divideU_u32 _ _ true _ (by omega) (by have := HC.out; omega) (by omega)).mono ?_
    rintro e w' ⟨rfl, rfl⟩
    rw [HQ.out]
    go_wp2_with fail
    refine (trap_yes _ _).mono ?_
    rintro e w' ⟨rfl, rfl⟩
    go_wp2_with fail
    go_ret2
    refine ⟨?_, Below.refl _ _⟩
    rw [HV.out, HQ.out]
    exact retE rfl rfl

set_option maxRecDepth 100000 in
set_option maxHeartbeats 400000 in
theorem reckon32_7 (c d : Nat) (w : World) (hc : c < 2 ^ 32) (hd : d < 2 ^ 32) : Calls Tryd.prog 30 #[.int .i64 7, .int .u32 c, .int .u32 d] w fun e w' => e = .returned (.tuple #[.int .u64 (r32 7 c d).1, .int .i64 (r32 7 c d).2]) ∧ Below w.heap.size w w' := by
  have HC := Lib.hid hc
  have HD := Lib.hid hd
  clear hc hd
  have HV := Lib.hid (r32_p 7 c d (by decide) (by decide) (by decide) (by decide))
  obtain ⟨s, hs⟩ : ∃ s : Nat, (d : Int) % 32 = (s : Int) := ⟨d % 32, by omega⟩
  have hs2 : s < 32 := by omega
  have HE := Lib.hid (show s = d % 32 by omega)
  go_enter Tryd.func30, Tryd.ntmps30
  go_wp2_with fail
  refine (rot32 c s _ HC.out (by omega) (by omega)).mono ?_
  rintro e w' ⟨rfl, rfl⟩
  go_wp2_with fail
  refine (rot32 c (-s) _ HC.out (by omega) (by omega)).mono ?_
  rintro e w' ⟨rfl, rfl⟩
  go_wp2_with fail
  go_ret2
  refine ⟨?_, (Below.refl _ _).alloc (Nat.le_refl _) _⟩
  have e := HE.out
  subst e
  rw [HV.out]
  exact retE rfl rfl

set_option maxRecDepth 100000 in
set_option maxHeartbeats 400000 in
theorem reckon32_8 (c d : Nat) (w : World) (hc : c < 2 ^ 32) (hd : d < 2 ^ 32) : Calls Tryd.prog 30 #[.int .i64 8, .int .u32 c, .int .u32 d] w fun e w' => e = .returned (.tuple #[.int .u64 (r32 8 c d).1, .int .i64 (r32 8 c d).2]) ∧ Below w.heap.size w w' := by
  have HC := Lib.hid hc
  have HD := Lib.hid hd
  clear hc hd
  have HV := Lib.hid (r32_p 8 c d (by decide) (by decide) (by decide) (by decide))
  obtain ⟨s, hs⟩ : ∃ s : Nat, (d : Int) % 32 = (s : Int) := ⟨d % 32, by omega⟩
  have hs2 : s < 32 := by omega
  have HE := Lib.hid (show s = d % 32 by omega)
  go_enter Tryd.func30, Tryd.ntmps30
  go_wp2_with fail
  refine (rot32 c s _ HC.out (by omega) (by omega)).mono ?_
  rintro e w' ⟨rfl, rfl⟩
  go_wp2_with fail
  refine (rot32 c (-s) _ HC.out (by omega) (by omega)).mono ?_
  rintro e w' ⟨rfl, rfl⟩
  go_wp2_with fail
  go_ret2
  refine ⟨?_, (Below.refl _ _).alloc (Nat.le_refl _) _⟩
  have e := HE.out
  subst e
  rw [HV.out]
  exact retE rfl rfl

set_option maxRecDepth 100000 in
set_option maxHeartbeats 400000 in
theorem reckon32_9 (c d : Nat) (w : World) (hc : c < 2 ^ 32) (hd : d < 2 ^ 32) : Calls Tryd.prog 30 #[.int .i64 9, .int .u32 c, .int .u32 d] w fun e w' => e = .returned (.tuple #[.int .u64 (r32 9 c d).1, .int .i64 (r32 9 c d).2]) ∧ Below w.heap.size w w' := by
  have HC := Lib.hid hc
  have HD := Lib.hid hd
  clear hc hd
  have HV := Lib.hid (r32_p 9 c d (by decide) (by decide) (by decide) (by decide))
  obtain ⟨s, hs⟩ : ∃ s : Nat, (d : Int) % 32 = (s : Int) := ⟨d % 32, by omega⟩
  have hs2 : s < 32 := by omega
  have HE := Lib.hid (show s = d % 32 by omega)
  go_enter Tryd.func30, Tryd.ntmps30
  go_wp2_with fail
  refine (rot32 c s _ HC.out (by omega) (by omega)).mono ?_
  rintro e w' ⟨rfl, rfl⟩
  go_wp2_with fail
  refine (rot32 c (-s) _ HC.out (by omega) (by omega)).mono ?_
  rintro e w' ⟨rfl, rfl⟩
  go_wp2_with fail
  go_ret2
  refine ⟨?_, (Below.refl _ _).alloc (Nat.le_refl _) _⟩
  have e := HE.out
  subst e
  rw [HV.out]
  exact retE rfl rfl

set_option maxRecDepth 100000 in
set_option maxHeartbeats 400000 in
theorem reckon32_10 (c d : Nat) (w : World) (hc : c < 2 ^ 32) (hd : d < 2 ^ 32) : Calls Tryd.prog 30 #[.int .i64 10, .int .u32 c, .int .u32 d] w fun e w' => e = .returned (.tuple #[.int .u64 (r32 10 c d).1, .int .i64 (r32 10 c d).2]) ∧ Below w.heap.size w w' := by
  have HC := Lib.hid hc
  have HD := Lib.hid hd
  clear hc hd
  have HV := Lib.hid (r32_p 10 c d (by decide) (by decide) (by decide) (by decide))
  obtain ⟨s, hs⟩ : ∃ s : Nat, (d : Int) % 32 = (s : Int) := ⟨d % 32, by omega⟩
  have hs2 : s < 32 := by omega
  have HE := Lib.hid (show s = d % 32 by omega)
  go_enter Tryd.func30, Tryd.ntmps30
  go_wp2_with fail
  refine (rot32 c s _ HC.out (by omega) (by omega)).mono ?_
  rintro e w' ⟨rfl, rfl⟩
  go_wp2_with fail
  refine (rot32 c (-s) _ HC.out (by omega) (by omega)).mono ?_
  rintro e w' ⟨rfl, rfl⟩
  go_wp2_with fail
  go_ret2
  refine ⟨?_, (Below.refl _ _).alloc (Nat.le_refl _) _⟩
  have e := HE.out
  subst e
  rw [HV.out]
  exact retE rfl rfl

set_option maxRecDepth 100000 in
set_option maxHeartbeats 400000 in
theorem reckon32_11 (c d : Nat) (w : World) (hc : c < 2 ^ 32) (hd : d < 2 ^ 32) : Calls Tryd.prog 30 #[.int .i64 11, .int .u32 c, .int .u32 d] w fun e w' => e = .returned (.tuple #[.int .u64 (r32 11 c d).1, .int .i64 (r32 11 c d).2]) ∧ Below w.heap.size w w' := by
  have HC := Lib.hid hc
  have HD := Lib.hid hd
  clear hc hd
  have HV := Lib.hid (r32_p 11 c d (by decide) (by decide) (by decide) (by decide))
  obtain ⟨s, hs⟩ : ∃ s : Nat, (d : Int) % 32 = (s : Int) := ⟨d % 32, by omega⟩
  have hs2 : s < 32 := by omega
  have HE := Lib.hid (show s = d % 32 by omega)
  go_enter Tryd.func30, Tryd.ntmps30
  go_wp2_with fail
  refine (rot32 c s _ HC.out (by omega) (by omega)).mono ?_
  rintro e w' ⟨rfl, rfl⟩
  go_wp2_with fail
  refine (rot32 c (-s) _ HC.out (by omega) (by omega)).mono ?_
  rintro e w' ⟨rfl, rfl⟩
  go_wp2_with fail
  go_ret2
  refine ⟨?_, (Below.refl _ _).alloc (Nat.le_refl _) _⟩
  have e := HE.out
  subst e
  rw [HV.out]
  exact retE rfl rfl

set_option maxRecDepth 100000 in
set_option maxHeartbeats 400000 in
theorem reckon32_12 (c d : Nat) (w : World) (hc : c < 2 ^ 32) (hd : d < 2 ^ 32) : Calls Tryd.prog 30 #[.int .i64 12, .int .u32 c, .int .u32 d] w fun e w' => e = .returned (.tuple #[.int .u64 (r32 12 c d).1, .int .i64 (r32 12 c d).2]) ∧ Below w.heap.size w w' := by
  have HC := Lib.hid hc
  have HD := Lib.hid hd
  clear hc hd
  have HV := Lib.hid (r32_p 12 c d (by decide) (by decide) (by decide) (by decide))
  obtain ⟨s, hs⟩ : ∃ s : Nat, (d : Int) % 32 = (s : Int) := ⟨d % 32, by omega⟩
  have hs2 : s < 32 := by omega
  have HE := Lib.hid (show s = d % 32 by omega)
  go_enter Tryd.func30, Tryd.ntmps30
  go_wp2_with fail
  refine (rot32 c s _ HC.out (by omega) (by omega)).mono ?_
  rintro e w' ⟨rfl, rfl⟩
  go_wp2_with fail
  refine (rot32 c (-s) _ HC.out (by omega) (by omega)).mono ?_
  rintro e w' ⟨rfl, rfl⟩
  go_wp2_with fail
  go_ret2
  refine ⟨?_, (Below.refl _ _).alloc (Nat.le_refl _) _⟩
  have e := HE.out
  subst e
  rw [HV.out]
  exact retE rfl rfl

set_option maxRecDepth 100000 in
set_option maxHeartbeats 400000 in
theorem reckon32_13 (c d : Nat) (w : World) (hc : c < 2 ^ 32) (hd : d < 2 ^ 32) : Calls Tryd.prog 30 #[.int .i64 13, .int .u32 c, .int .u32 d] w fun e w' => e = .returned (.tuple #[.int .u64 (r32 13 c d).1, .int .i64 (r32 13 c d).2]) ∧ Below w.heap.size w w' := by
  have HC := Lib.hid hc
  have HD := Lib.hid hd
  clear hc hd
  have HV := Lib.hid (r32_p 13 c d (by decide) (by decide) (by decide) (by decide))
  obtain ⟨s, hs⟩ : ∃ s : Nat, (d : Int) % 32 = (s : Int) := ⟨d % 32, by omega⟩
  have hs2 : s < 32 := by omega
  have HE := Lib.hid (show s = d % 32 by omega)
  go_enter Tryd.func30, Tryd.ntmps30
  go_wp2_with fail
  refine (rot32 c s _ HC.out (by omega) (by omega)).mono ?_
  rintro e w' ⟨rfl, rfl⟩
  go_wp2_with fail
  refine (rot32 c (-s) _ HC.out (by omega) (by omega)).mono ?_
  rintro e w' ⟨rfl, rfl⟩
  go_wp2_with fail
  go_ret2
  refine ⟨?_, (Below.refl _ _).alloc (Nat.le_refl _) _⟩
  have e := HE.out
  subst e
  rw [HV.out]
  refine retE ?_ rfl
  show IntKind.u64.wrap ((rotl 32 c (d % 32 % 32) : Nat) : Int) = IntKind.u64.wrap ((rotl 32 c (d % 32) : Nat) : Int)
  rw [Nat.mod_mod]

set_option maxRecDepth 100000 in
set_option maxHeartbeats 400000 in
theorem reckon32_14 (c d : Nat) (w : World) (hc : c < 2 ^ 32) (hd : d < 2 ^ 32) : Calls Tryd.prog 30 #[.int .i64 14, .int .u32 c, .int .u32 d] w fun e w' => e = .returned (.tuple #[.int .u64 (r32 14 c d).1, .int .i64 (r32 14 c d).2]) ∧ Below w.heap.size w w' := by
  have HC := Lib.hid hc
  have HD := Lib.hid hd
  clear hc hd
  have HV := Lib.hid (r32_p 14 c d (by decide) (by decide) (by decide) (by decide))
  obtain ⟨s, hs⟩ : ∃ s : Nat, (d : Int) % 32 = (s : Int) := ⟨d % 32, by omega⟩
  have hs2 : s < 32 := by omega
  have HE := Lib.hid (show s = d % 32 by omega)
  go_enter Tryd.func30, Tryd.ntmps30
  go_wp2_with fail
  refine (rot32 c s _ HC.out (by omega) (by omega)).mono ?_
  rintro e w' ⟨rfl, rfl⟩
  go_wp2_with fail
  refine (rot32 c (-s) _ HC.out (by omega) (by omega)).mono ?_
  rintro e w' ⟨rfl, rfl⟩
  go_wp2_with fail
  go_ret2
  refine ⟨?_, (Below.refl _ _).alloc (Nat.le_refl _) _⟩
  have e := HE.out
  subst e
  rw [HV.out]
  refine retE ?_ rfl
  show IntKind.u64.wrap ((rotl 32 c (-((d % 32 : Nat) : Int) % 32).toNat : Nat) : Int) = IntKind.u64.wrap ((rotl 32 c ((32 - d % 32) % 32) : Nat) : Int)
  rw [show (-((d % 32 : Nat) : Int) % 32).toNat = (32 - d % 32) % 32 by omega]

theorem reckon32_any (kind : Int) (c d : Nat) (w : World) (h0 : 0 ≤ kind) (h1 : kind ≤ 14) (hc : c < 2 ^ 32) (hd : d < 2 ^ 32) : Calls Tryd.prog 30 #[.int .i64 kind, .int .u32 c, .int .u32 d] w fun e w' => e = .returned (.tuple #[.int .u64 (r32 kind.toNat c d).1, .int .i64 (r32 kind.toNat c d).2]) ∧ Below w.heap.size w w' := by
  rcases (show kind = 0 ∨ kind = 1 ∨ kind = 2 ∨ kind = 3 ∨ kind = 4 ∨ kind = 5 ∨ kind = 6 ∨ kind = 7 ∨ kind = 8 ∨ kind = 9 ∨ kind = 10 ∨ kind = 11 ∨ kind = 12 ∨ kind = 13 ∨ kind = 14 by omega) with rfl | rfl | rfl | rfl | rfl | rfl | rfl | rfl | rfl | rfl | rfl | rfl | rfl | rfl | rfl
  · exact reckon32_0 c d w hc hd
  · exact reckon32_1 c d w hc hd
  · exact reckon32_2 c d w hc hd
  · exact reckon32_3 c d w hc hd
  · exact reckon32_4 c d w hc hd
  · exact reckon32_5 c d w hc hd
  · exact reckon32_6 c d w hc hd
  · exact reckon32_7 c d w hc hd
  · exact reckon32_8 c d w hc hd
  · exact reckon32_9 c d w hc hd
  · exact reckon32_10 c d w hc hd
  · exact reckon32_11 c d w hc hd
  · exact reckon32_12 c d w hc hd
  · exact reckon32_13 c d w hc hd
  · exact reckon32_14 c d w hc hd
end Go.Proofs.YtebikmnegemggaaDoor.Num
