/-
  What the small functions of package num answer: truth, order, test, divide, divideU, trap, and math/bits.RotateLeft. No condition beyond what each theorem names.
-/
import Derived.Test.YtebikmnegemggaaDoorProg
import Derived.Test.YtebikmnegemggaaDoorWf
import Derived.WalkKit
import Derived.WalkSpells
import Derived.WalkLawsBesides
import Derived.Lib.Hide
import Derived.Laws.Bits64b
namespace Go.Proofs.YtebikmnegemggaaDoor.Num
open Go.RowKit
set_option linter.unusedVariables false

def truthA (b : Bool) : Int := if b then 1 else 0
theorem truth_any (b : Bool) (w : World) : Calls Tryd.prog 24 #[.bool b] w fun e w' => e = .returned (.int .u64 (truthA b)) ∧ w = w' := by
  cases b
  all_goals
    go_enter Tryd.func24, Tryd.ntmps24
    go_wp2
    go_ret
    exact ⟨rfl, rfl⟩

def ord (x y : Int) : Int := if x < y then -1 else if y < x then 1 else 0

theorem order_i32 (x y : Int) (w : World) : Calls Tryd.prog 26 #[.int .i32 x, .int .i32 y] w fun e w' => e = .returned (.int .i64 (ord x y)) ∧ w = w' := by
  by_cases h1 : x < y
  · have HO := Lib.hid (show ord x y = -1 by unfold ord; rw [if_pos h1])
    go_enter Tryd.func26, Tryd.ntmps26
    go_wp2
    go_ret
    exact ⟨by rw [HO.out]; rfl, rfl⟩
  · by_cases h2 : y < x
    · have HO := Lib.hid (show ord x y = 1 by unfold ord; rw [if_neg h1, if_pos h2])
      go_enter Tryd.func26, Tryd.ntmps26
      go_wp2
      go_ret
      exact ⟨by rw [HO.out]; rfl, rfl⟩
    · have HO := Lib.hid (show ord x y = 0 by unfold ord; rw [if_neg h1, if_neg h2])
      have h3 : decide (x < y) = false := decide_eq_false h1
      have h4 : decide (y < x) = false := decide_eq_false h2
      clear h1 h2
      go_enter Tryd.func26, Tryd.ntmps26
      go_wp2
      go_ret
      exact ⟨by rw [HO.out]; rfl, rfl⟩

theorem order_u32 (x y : Int) (w : World) : Calls Tryd.prog 27 #[.int .u32 x, .int .u32 y] w fun e w' => e = .returned (.int .i64 (ord x y)) ∧ w = w' := by
  by_cases h1 : x < y
  · have HO := Lib.hid (show ord x y = -1 by unfold ord; rw [if_pos h1])
    go_enter Tryd.func27, Tryd.ntmps27
    go_wp2
    go_ret
    exact ⟨by rw [HO.out]; rfl, rfl⟩
  · by_cases h2 : y < x
    · have HO := Lib.hid (show ord x y = 1 by unfold ord; rw [if_neg h1, if_pos h2])
      go_enter Tryd.func27, Tryd.ntmps27
      go_wp2
      go_ret
      exact ⟨by rw [HO.out]; rfl, rfl⟩
    · have HO := Lib.hid (show ord x y = 0 by unfold ord; rw [if_neg h1, if_neg h2])
      have h3 : decide (x < y) = false := decide_eq_false h1
      have h4 : decide (y < x) = false := decide_eq_false h2
      clear h1 h2
      go_enter Tryd.func27, Tryd.ntmps27
      go_wp2
      go_ret
      exact ⟨by rw [HO.out]; rfl, rfl⟩

theorem order_i64 (x y : Int) (w : World) : Calls Tryd.prog 28 #[.int .i64 x, .int .i64 y] w fun e w' => e = .returned (.int .i64 (ord x y)) ∧ w = w' := by
  by_cases h1 : x < y
  · have HO := Lib.hid (show ord x y = -1 by unfold ord; rw [if_pos h1])
    go_enter Tryd.func28, Tryd.ntmps28
    go_wp2
    go_ret
    exact ⟨by rw [HO.out]; rfl, rfl⟩
  · by_cases h2 : y < x
    · have HO := Lib.hid (show ord x y = 1 by unfold ord; rw [if_neg h1, if_pos h2])
      go_enter Tryd.func28, Tryd.ntmps28
      go_wp2
      go_ret
      exact ⟨by rw [HO.out]; rfl, rfl⟩
    · have HO := Lib.hid (show ord x y = 0 by unfold ord; rw [if_neg h1, if_neg h2])
      have h3 : decide (x < y) = false := decide_eq_false h1
      have h4 : decide (y < x) = false := decide_eq_false h2
      clear h1 h2
      go_enter Tryd.func28, Tryd.ntmps28
      go_wp2
      go_ret
      exact ⟨by rw [HO.out]; rfl, rfl⟩

theorem order_u64 (x y : Int) (w : World) : Calls Tryd.prog 29 #[.int .u64 x, .int .u64 y] w fun e w' => e = .returned (.int .i64 (ord x y)) ∧ w = w' := by
  by_cases h1 : x < y
  · have HO := Lib.hid (show ord x y = -1 by unfold ord; rw [if_pos h1])
    go_enter Tryd.func29, Tryd.ntmps29
    go_wp2
    go_ret
    exact ⟨by rw [HO.out]; rfl, rfl⟩
  · by_cases h2 : y < x
    · have HO := Lib.hid (show ord x y = 1 by unfold ord; rw [if_neg h1, if_pos h2])
      go_enter Tryd.func29, Tryd.ntmps29
      go_wp2
      go_ret
      exact ⟨by rw [HO.out]; rfl, rfl⟩
    · have HO := Lib.hid (show ord x y = 0 by unfold ord; rw [if_neg h1, if_neg h2])
      have h3 : decide (x < y) = false := decide_eq_false h1
      have h4 : decide (y < x) = false := decide_eq_false h2
      clear h1 h2
      go_enter Tryd.func29, Tryd.ntmps29
      go_wp2
      go_ret
      exact ⟨by rw [HO.out]; rfl, rfl⟩

def testB (kind : Nat) (s u : Int) : Bool :=
  match kind with
  | 0 => s == 0
  | 1 => !(u == 0)
  | 2 => decide (s < 0)
  | 3 => decide (u < 0)
  | 4 => decide (0 < s)
  | 5 => decide (0 < u)
  | 6 => decide (s ≤ 0)
  | 7 => decide (u ≤ 0)
  | 8 => decide (0 ≤ s)
  | _ => decide (0 ≤ u)

theorem test_0 (s u : Int) (w : World) : Calls Tryd.prog 25 #[.int .i64 0, .int .i64 s, .int .i64 u] w fun e w' => e = .returned (.bool (testB 0 s u)) ∧ w = w' := by
  go_enter Tryd.func25, Tryd.ntmps25
  go_wp2
  go_ret
  exact ⟨rfl, rfl⟩

theorem test_1 (s u : Int) (w : World) : Calls Tryd.prog 25 #[.int .i64 1, .int .i64 s, .int .i64 u] w fun e w' => e = .returned (.bool (testB 1 s u)) ∧ w = w' := by
  go_enter Tryd.func25, Tryd.ntmps25
  go_wp2
  go_ret
  exact ⟨rfl, rfl⟩

theorem test_2 (s u : Int) (w : World) : Calls Tryd.prog 25 #[.int .i64 2, .int .i64 s, .int .i64 u] w fun e w' => e = .returned (.bool (testB 2 s u)) ∧ w = w' := by
  go_enter Tryd.func25, Tryd.ntmps25
  go_wp2
  go_ret
  exact ⟨rfl, rfl⟩

theorem test_3 (s u : Int) (w : World) : Calls Tryd.prog 25 #[.int .i64 3, .int .i64 s, .int .i64 u] w fun e w' => e = .returned (.bool (testB 3 s u)) ∧ w = w' := by
  go_enter Tryd.func25, Tryd.ntmps25
  go_wp2
  go_ret
  exact ⟨rfl, rfl⟩

theorem test_4 (s u : Int) (w : World) : Calls Tryd.prog 25 #[.int .i64 4, .int .i64 s, .int .i64 u] w fun e w' => e = .returned (.bool (testB 4 s u)) ∧ w = w' := by
  go_enter Tryd.func25, Tryd.ntmps25
  go_wp2
  go_ret
  exact ⟨rfl, rfl⟩

theorem test_5 (s u : Int) (w : World) : Calls Tryd.prog 25 #[.int .i64 5, .int .i64 s, .int .i64 u] w fun e w' => e = .returned (.bool (testB 5 s u)) ∧ w = w' := by
  go_enter Tryd.func25, Tryd.ntmps25
  go_wp2
  go_ret
  exact ⟨rfl, rfl⟩

theorem test_6 (s u : Int) (w : World) : Calls Tryd.prog 25 #[.int .i64 6, .int .i64 s, .int .i64 u] w fun e w' => e = .returned (.bool (testB 6 s u)) ∧ w = w' := by
  go_enter Tryd.func25, Tryd.ntmps25
  go_wp2
  go_ret
  exact ⟨rfl, rfl⟩

theorem test_7 (s u : Int) (w : World) : Calls Tryd.prog 25 #[.int .i64 7, .int .i64 s, .int .i64 u] w fun e w' => e = .returned (.bool (testB 7 s u)) ∧ w = w' := by
  go_enter Tryd.func25, Tryd.ntmps25
  go_wp2
  go_ret
  exact ⟨rfl, rfl⟩

theorem test_8 (s u : Int) (w : World) : Calls Tryd.prog 25 #[.int .i64 8, .int .i64 s, .int .i64 u] w fun e w' => e = .returned (.bool (testB 8 s u)) ∧ w = w' := by
  go_enter Tryd.func25, Tryd.ntmps25
  go_wp2
  go_ret
  exact ⟨rfl, rfl⟩

theorem test_9 (s u : Int) (w : World) : Calls Tryd.prog 25 #[.int .i64 9, .int .i64 s, .int .i64 u] w fun e w' => e = .returned (.bool (testB 9 s u)) ∧ w = w' := by
  go_enter Tryd.func25, Tryd.ntmps25
  go_wp2
  go_ret
  exact ⟨rfl, rfl⟩

theorem test_any (kind : Int) (s u : Int) (w : World) (h0 : 0 ≤ kind) (h1 : kind ≤ 9) : Calls Tryd.prog 25 #[.int .i64 kind, .int .i64 s, .int .i64 u] w fun e w' => e = .returned (.bool (testB kind.toNat s u)) ∧ w = w' := by
  rcases (show kind = 0 ∨ kind = 1 ∨ kind = 2 ∨ kind = 3 ∨ kind = 4 ∨ kind = 5 ∨ kind = 6 ∨ kind = 7 ∨ kind = 8 ∨ kind = 9 by omega) with rfl | rfl | rfl | rfl | rfl | rfl | rfl | rfl | rfl | rfl
  · exact test_0 s u w
  · exact test_1 s u w
  · exact test_2 s u w
  · exact test_3 s u w
  · exact test_4 s u w
  · exact test_5 s u w
  · exact test_6 s u w
  · exact test_7 s u w
  · exact test_8 s u w
  · exact test_9 s u w

def divA (least a b : Int) (rest : Bool) : Int × Bool :=
  if b = 0 ∨ (a = least ∧ b = -1 ∧ rest = false) then (0, false) else if b = -1 ∧ rest = true then (0, true) else if rest then (a.tmod b, true) else (a.tdiv b, true)
theorem ret2 {k1 : IntKind} {a a' : Int} {b b' : Bool} (h1 : a = a') (h2 : b = b') : Ending.returned (.tuple #[.int k1 a, .bool b]) = .returned (.tuple #[.int k1 a', .bool b']) := by rw [h1, h2]
theorem tdiv_u (a b M : Int) (ha : 0 ≤ a) (hM : a < M) (hb : 0 ≤ b) : a.tdiv b % M = a / b := by
  rw [Int.tdiv_eq_ediv_of_nonneg ha]
  have h1 := Int.ediv_nonneg ha hb
  have h2 := Int.ediv_le_self b ha
  exact Int.emod_eq_of_lt h1 (by omega)
theorem tdiv_range (a b M : Int) (h1 : -M ≤ a) (h2 : a < M) (h3 : b ≠ 0) (h4 : b ≠ -1) : -M ≤ a.tdiv b ∧ a.tdiv b < M := by
  by_cases hb : b = 1
  · subst hb
    rw [Int.tdiv_one]
    exact ⟨h1, h2⟩
  · have hn : (a.tdiv b).natAbs = a.natAbs / b.natAbs := Int.natAbs_tdiv a b
    have hle : a.natAbs / b.natAbs ≤ a.natAbs / 2 := Nat.div_le_div_left (by omega) (by decide)
    omega
theorem tmod_range (a b M : Int) (h1 : -M ≤ a) (h2 : a < M) (h3 : b ≠ 0) : -M ≤ a.tmod b ∧ a.tmod b < M := by
  have hn := Int.natAbs_tmod a b
  have hle : a.natAbs % b.natAbs ≤ a.natAbs := Nat.mod_le _ _
  have hs : 0 ≤ a → 0 ≤ a.tmod b := fun h => Int.tmod_nonneg b h
  by_cases h0 : 0 ≤ a
  · have := hs h0
    omega
  · by_cases h4 : 0 ≤ a.tmod b
    · have h5 : (-a).tmod b = -(a.tmod b) := Int.neg_tmod a b
      have h6 := Int.tmod_nonneg b (show 0 ≤ -a by omega)
      omega
    · omega
theorem tdiv_m1 (a : Int) : a.tdiv (-1) = -a := by rw [Int.tdiv_neg, Int.tdiv_one]
def divU (a b : Int) (rest : Bool) : Int × Bool :=
  if b = 0 then (0, false) else if rest then (a % b, true) else (a / b, true)
theorem trap_yes (n : Int) (w : World) : Calls Tryd.prog 54 #[.int .u64 n, .bool true] w fun e w' => e = .returned (.tuple #[.int .u64 n, .int .i64 0]) ∧ w = w' := by
  go_enter Tryd.func54, Tryd.ntmps54
  go_wp2
  go_ret2
  exact ⟨rfl, rfl⟩
theorem trap_no (n : Int) (w : World) : Calls Tryd.prog 54 #[.int .u64 n, .bool false] w fun e w' => e = .returned (.tuple #[.int .u64 0, .int .i64 6]) ∧ w = w' := by
  go_enter Tryd.func54, Tryd.ntmps54
  go_wp2
  go_ret2
  exact ⟨rfl, rfl⟩

theorem divideU_u32 (a b : Int) (rest : Bool) (w : World) (ha : 0 ≤ a) (ha' : a < 4294967296) (hb : 0 ≤ b) : Calls Tryd.prog 55 #[.int .u32 a, .int .u32 b, .bool rest] w fun e w' => e = .returned (.tuple #[.int .u32 (divU a b rest).1, .bool (divU a b rest).2]) ∧ w = w' := by
  by_cases h1 : b = 0
  · subst h1
    go_enter Tryd.func55, Tryd.ntmps55
    go_wp2
    go_ret2
    exact ⟨rfl, rfl⟩
  · have h2 : (b == 0) = false := beq_eq_false_iff_ne.2 h1
    have h3 : 1 ≤ b := by omega
    cases rest
    · have HO := Lib.hid (show divU a b false = (a / b, true) by unfold divU; rw [if_neg h1]; rfl)
      have HT := Lib.hid (tdiv_u a b 4294967296 ha ha' hb)
      clear h1 ha'
      go_enter Tryd.func55, Tryd.ntmps55
      go_wp2
      go_ret2
      refine ⟨?_, rfl⟩
      rw [HO.out]
      exact ret2 (by first | exact HT.out | (have h := HT.out; rw [← IntKind.wrap_u64] at h; exact h)) rfl
    · have HO := Lib.hid (show divU a b true = (a % b, true) by unfold divU; rw [if_neg h1]; rfl)
      clear h1
      go_enter Tryd.func55, Tryd.ntmps55
      go_wp2
      go_ret2
      exact ⟨by rw [HO.out]; rfl, rfl⟩

theorem divideU_u64 (a b : Int) (rest : Bool) (w : World) (ha : 0 ≤ a) (ha' : a < 18446744073709551616) (hb : 0 ≤ b) : Calls Tryd.prog 58 #[.int .u64 a, .int .u64 b, .bool rest] w fun e w' => e = .returned (.tuple #[.int .u64 (divU a b rest).1, .bool (divU a b rest).2]) ∧ w = w' := by
  by_cases h1 : b = 0
  · subst h1
    go_enter Tryd.func58, Tryd.ntmps58
    go_wp2
    go_ret2
    exact ⟨rfl, rfl⟩
  · have h2 : (b == 0) = false := beq_eq_false_iff_ne.2 h1
    have h3 : 1 ≤ b := by omega
    cases rest
    · have HO := Lib.hid (show divU a b false = (a / b, true) by unfold divU; rw [if_neg h1]; rfl)
      have HT := Lib.hid (tdiv_u a b 18446744073709551616 ha ha' hb)
      clear h1 ha'
      go_enter Tryd.func58, Tryd.ntmps58
      go_wp2
      go_ret2
      refine ⟨?_, rfl⟩
      rw [HO.out]
      exact ret2 (by first | exact HT.out | (have h := HT.out; rw [← IntKind.wrap_u64] at h; exact h)) rfl
    · have HO := Lib.hid (show divU a b true = (a % b, true) by unfold divU; rw [if_neg h1]; rfl)
      clear h1
      go_enter Tryd.func58, Tryd.ntmps58
      go_wp2
      go_ret2
      exact ⟨by rw [HO.out]; rfl, rfl⟩

set_option maxRecDepth 100000 in
theorem divide_i32 (a b : Int) (rest : Bool) (w : World) (ha : -2147483648 ≤ a) (ha' : a < 2147483648) (hb : -2147483648 ≤ b) (hb' : b < 2147483648) : Calls Tryd.prog 53 #[.int .i32 a, .int .i32 b, .int .i32 (-2147483648), .bool rest] w fun e w' => e = .returned (.tuple #[.int .i32 (divA (-2147483648) a b rest).1, .bool (divA (-2147483648) a b rest).2]) ∧ w = w' := by
  by_cases h1 : b = 0
  · subst h1
    have HO := Lib.hid (show divA (-2147483648) a 0 rest = (0, false) by unfold divA; rw [if_pos (.inl rfl)])
    go_enter Tryd.func53, Tryd.ntmps53
    go_wp2
    go_ret2
    exact ⟨by rw [HO.out]; rfl, rfl⟩
  · have hb0 : (b == 0) = false := beq_eq_false_iff_ne.2 h1
    by_cases h2 : b = -1
    · subst h2
      cases rest
      · by_cases h3 : a = -2147483648
        · subst h3
          have HO := Lib.hid (show divA (-2147483648) (-2147483648) (-1) false = (0, false) from rfl)
          clear ha ha' hb hb'
          go_enter Tryd.func53, Tryd.ntmps53
          go_wp2
          go_ret2
          exact ⟨by rw [HO.out]; rfl, rfl⟩
        · have ha0 : (a == -2147483648) = false := beq_eq_false_iff_ne.2 h3
          have HO := Lib.hid (show divA (-2147483648) a (-1) false = (a.tdiv (-1), true) by
            unfold divA; rw [if_neg (by omega), if_neg (by simp)]; rfl)
          have HT := Lib.hid (show wrap32 (-a) = a.tdiv (-1) by rw [tdiv_m1]; unfold wrap32; omega)
          clear h3 ha ha' hb hb'
          go_enter Tryd.func53, Tryd.ntmps53
          go_wp2
          go_ret2
          refine ⟨?_, rfl⟩
          rw [HO.out]
          exact ret2 HT.out rfl
      · have HO := Lib.hid (show divA (-2147483648) a (-1) true = (0, true) by
          unfold divA; rw [if_neg (by simp), if_pos (by simp)])
        clear ha ha' hb hb'
        rcases Bool.eq_false_or_eq_true (a == -2147483648) with hq | hq
        all_goals
          go_enter Tryd.func53, Tryd.ntmps53
          go_wp2
          go_ret2
          exact ⟨by rw [HO.out]; rfl, rfl⟩
    · have hb1 : (b == -1) = false := beq_eq_false_iff_ne.2 h2
      cases rest
      · have HO := Lib.hid (show divA (-2147483648) a b false = (a.tdiv b, true) by
          unfold divA; rw [if_neg (by omega), if_neg (by omega)]; rfl)
        have HT := Lib.hid (show wrap32 (a.tdiv b) = a.tdiv b by have := tdiv_range a b 2147483648 (by omega) ha' h1 h2; unfold wrap32; omega)
        clear h2 ha ha' hb hb'
        rcases Bool.eq_false_or_eq_true (a == -2147483648) with hq | hq
        all_goals
          go_enter Tryd.func53, Tryd.ntmps53
          go_wp2
          go_ret2
          refine ⟨?_, rfl⟩
          rw [HO.out]
          exact ret2 HT.out rfl
      · have HO := Lib.hid (show divA (-2147483648) a b true = (a.tmod b, true) by
          unfold divA; rw [if_neg (by omega), if_neg (by omega)]; rfl)
        clear h2 ha ha' hb hb'
        rcases Bool.eq_false_or_eq_true (a == -2147483648) with hq | hq
        all_goals
          go_enter Tryd.func53, Tryd.ntmps53
          go_wp2
          go_ret2
          refine ⟨?_, rfl⟩
          rw [HO.out]
          exact ret2 rfl rfl

set_option maxRecDepth 100000 in
theorem divide_i64 (a b : Int) (rest : Bool) (w : World) (ha : -9223372036854775808 ≤ a) (ha' : a < 9223372036854775808) (hb : -9223372036854775808 ≤ b) (hb' : b < 9223372036854775808) : Calls Tryd.prog 57 #[.int .i64 a, .int .i64 b, .int .i64 (-9223372036854775808), .bool rest] w fun e w' => e = .returned (.tuple #[.int .i64 (divA (-9223372036854775808) a b rest).1, .bool (divA (-9223372036854775808) a b rest).2]) ∧ w = w' := by
  by_cases h1 : b = 0
  · subst h1
    have HO := Lib.hid (show divA (-9223372036854775808) a 0 rest = (0, false) by unfold divA; rw [if_pos (.inl rfl)])
    go_enter Tryd.func57, Tryd.ntmps57
    go_wp2
    go_ret2
    exact ⟨by rw [HO.out]; rfl, rfl⟩
  · have hb0 : (b == 0) = false := beq_eq_false_iff_ne.2 h1
    by_cases h2 : b = -1
    · subst h2
      cases rest
      · by_cases h3 : a = -9223372036854775808
        · subst h3
          have HO := Lib.hid (show divA (-9223372036854775808) (-9223372036854775808) (-1) false = (0, false) from rfl)
          clear ha ha' hb hb'
          go_enter Tryd.func57, Tryd.ntmps57
          go_wp2
          go_ret2
          exact ⟨by rw [HO.out]; rfl, rfl⟩
        · have ha0 : (a == -9223372036854775808) = false := beq_eq_false_iff_ne.2 h3
          have HO := Lib.hid (show divA (-9223372036854775808) a (-1) false = (a.tdiv (-1), true) by
            unfold divA; rw [if_neg (by omega), if_neg (by simp)]; rfl)
          have HT := Lib.hid (show wrap64 (-a) = a.tdiv (-1) by rw [tdiv_m1]; unfold wrap64; omega)
          clear h3 ha ha' hb hb'
          go_enter Tryd.func57, Tryd.ntmps57
          go_wp2
          go_ret2
          refine ⟨?_, rfl⟩
          rw [HO.out]
          exact ret2 HT.out rfl
      · have HO := Lib.hid (show divA (-9223372036854775808) a (-1) true = (0, true) by
          unfold divA; rw [if_neg (by simp), if_pos (by simp)])
        clear ha ha' hb hb'
        rcases Bool.eq_false_or_eq_true (a == -9223372036854775808) with hq | hq
        all_goals
          go_enter Tryd.func57, Tryd.ntmps57
          go_wp2
          go_ret2
          exact ⟨by rw [HO.out]; rfl, rfl⟩
    · have hb1 : (b == -1) = false := beq_eq_false_iff_ne.2 h2
      cases rest
      · have HO := Lib.hid (show divA (-9223372036854775808) a b false = (a.tdiv b, true) by
          unfold divA; rw [if_neg (by omega), if_neg (by omega)]; rfl)
        have HT := Lib.hid (show wrap64 (a.tdiv b) = a.tdiv b by have := tdiv_range a b 9223372036854775808 (by omega) ha' h1 h2; unfold wrap64; omega)
        clear h2 ha ha' hb hb'
        rcases Bool.eq_false_or_eq_true (a == -9223372036854775808) with hq | hq
        all_goals
          go_enter Tryd.func57, Tryd.ntmps57
          go_wp2
          go_ret2
          refine ⟨?_, rfl⟩
          rw [HO.out]
          exact ret2 HT.out rfl
      · have HO := Lib.hid (show divA (-9223372036854775808) a b true = (a.tmod b, true) by
          unfold divA; rw [if_neg (by omega), if_neg (by omega)]; rfl)
        clear h2 ha ha' hb hb'
        rcases Bool.eq_false_or_eq_true (a == -9223372036854775808) with hq | hq
        all_goals
          go_enter Tryd.func57, Tryd.ntmps57
          go_wp2
          go_ret2
          refine ⟨?_, rfl⟩
          rw [HO.out]
          exact ret2 rfl rfl

theorem wraps_u32 (n : Int) (h0 : 0 ≤ n) (h1 : n < 2 ^ 32) : IntKind.u32.wrap n = n := by rw [IntKind.wrap_u32]; omega
theorem wraps_u64 (n : Int) (h0 : 0 ≤ n) (h1 : n < 2 ^ 64) : IntKind.u64.wrap n = n := by rw [IntKind.wrap_u64]; omega
/-- turned left by s of W bits -/
def rotl (W x s : Nat) : Nat := (x * 2 ^ s % 2 ^ W) ||| (x / 2 ^ (W - s))

theorem and31 (k : Int) : bits .and .u64 (IntKind.u64.wrap k) 31 = k % 32 := by
  have h := bits_mask .u64 64 (by decide) wraps_u64 5 (by decide) (IntKind.u64.wrap k) (by rw [IntKind.wrap_u64]; omega) (by rw [IntKind.wrap_u64]; omega)
  have e : IntKind.u64.wrap k % 32 = k % 32 := by rw [IntKind.wrap_u64]; omega
  rw [← e]
  exact h

theorem rot_or32 (x s : Nat) (hx : x < 2 ^ 32) : bits .or .u32 ((x : Int) * 2 ^ s % 4294967296) ((x : Int) / 2 ^ (32 - s)) = ((rotl 32 x s : Nat) : Int) := by
  have hc : ∀ i : Nat, ((2 ^ i : Nat) : Int) = 2 ^ i := fun i => by rw [Int.natCast_pow]; rfl
  have e1 : (x : Int) * 2 ^ s = ((x * 2 ^ s : Nat) : Int) := by rw [Int.natCast_mul, hc]
  have e2 : (x : Int) / 2 ^ (32 - s) = ((x / 2 ^ (32 - s) : Nat) : Int) := by rw [Int.natCast_ediv, hc]
  have e3 : ((x * 2 ^ s : Nat) : Int) % 4294967296 = ((x * 2 ^ s % 2 ^ 32 : Nat) : Int) := by omega
  have hd := Nat.div_le_self x (2 ^ (32 - s))
  rw [e1, e2, e3]
  have h := (bits_nat .u32 32 (by decide) wraps_u32 (x * 2 ^ s % 2 ^ 32) (x / 2 ^ (32 - s)) (Nat.mod_lt _ (by decide)) (by omega)).2
  rw [h]
  rfl

set_option maxRecDepth 100000 in
theorem rot32 (x : Nat) (k : Int) (w : World) (hx : x < 2 ^ 32) (hk : -32 ≤ k) (hk' : k ≤ 32) : Calls Tryd.prog 56 #[.int .u32 x, .int .i64 k] w fun e w' => e = .returned (.int .u32 (rotl 32 x (k % 32).toNat : Nat)) ∧ w = w' := by
  have HX := Lib.hid hx
  clear hx
  obtain ⟨s, hs⟩ : ∃ s : Nat, k % 32 = (s : Int) := ⟨(k % 32).toNat, by omega⟩
  have hs2 : s < 32 := by omega
  have hand : bits .and .u64 (IntKind.u64.wrap k) 31 = (s : Int) := by rw [and31, hs]
  have HE := Lib.hid (show (k % 32).toNat = s by omega)
  clear hs
  go_enter Tryd.func56, Tryd.ntmps56
  go_wp2
  go_ret
  refine ⟨?_, rfl⟩
  rw [HE.out, ← rot_or32 x s HX.out]
  rfl

theorem and63 (k : Int) : bits .and .u64 (IntKind.u64.wrap k) 63 = k % 64 := by
  have h := bits_mask .u64 64 (by decide) wraps_u64 6 (by decide) (IntKind.u64.wrap k) (by rw [IntKind.wrap_u64]; omega) (by rw [IntKind.wrap_u64]; omega)
  have e : IntKind.u64.wrap k % 64 = k % 64 := by rw [IntKind.wrap_u64]; omega
  rw [← e]
  exact h

theorem rot_or64 (x s : Nat) (hx : x < 2 ^ 64) : bits .or .u64 (IntKind.u64.wrap ((x : Int) * 2 ^ s)) ((x : Int) / 2 ^ (64 - s)) = ((rotl 64 x s : Nat) : Int) := by
  have hc : ∀ i : Nat, ((2 ^ i : Nat) : Int) = 2 ^ i := fun i => by rw [Int.natCast_pow]; rfl
  have e1 : (x : Int) * 2 ^ s = ((x * 2 ^ s : Nat) : Int) := by rw [Int.natCast_mul, hc]
  have e2 : (x : Int) / 2 ^ (64 - s) = ((x / 2 ^ (64 - s) : Nat) : Int) := by rw [Int.natCast_ediv, hc]
  have e3 : IntKind.u64.wrap ((x * 2 ^ s : Nat) : Int) = ((x * 2 ^ s % 2 ^ 64 : Nat) : Int) := by rw [IntKind.wrap_u64]; omega
  have hd := Nat.div_le_self x (2 ^ (64 - s))
  rw [e1, e2, e3]
  have h := (bits_nat .u64 64 (by decide) wraps_u64 (x * 2 ^ s % 2 ^ 64) (x / 2 ^ (64 - s)) (Nat.mod_lt _ (by decide)) (by omega)).2
  rw [h]
  rfl

set_option maxRecDepth 100000 in
theorem rot64 (x : Nat) (k : Int) (w : World) (hx : x < 2 ^ 64) (hk : -64 ≤ k) (hk' : k ≤ 64) : Calls Tryd.prog 59 #[.int .u64 x, .int .i64 k] w fun e w' => e = .returned (.int .u64 (rotl 64 x (k % 64).toNat : Nat)) ∧ w = w' := by
  have HX := Lib.hid hx
  clear hx
  obtain ⟨s, hs⟩ : ∃ s : Nat, k % 64 = (s : Int) := ⟨(k % 64).toNat, by omega⟩
  have hs2 : s < 64 := by omega
  have hand : bits .and .u64 (IntKind.u64.wrap k) 63 = (s : Int) := by rw [and63, hs]
  have HE := Lib.hid (show (k % 64).toNat = s by omega)
  clear hs
  go_enter Tryd.func59, Tryd.ntmps59
  go_wp2
  go_ret
  refine ⟨?_, rfl⟩
  rw [HE.out, ← rot_or64 x s HX.out]
  rfl
end Go.Proofs.YtebikmnegemggaaDoor.Num
