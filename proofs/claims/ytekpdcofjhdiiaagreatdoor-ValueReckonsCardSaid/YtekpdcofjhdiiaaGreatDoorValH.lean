/-
  Numbers and bytes held against one another in chapter 10. No condition beyond what each theorem names.
-/
import Derived.Test.YtekpdcofjhdiiaaGreatDoorValG
import Derived.WalkLawsBesides
import Derived.StillTailTactics
import Derived.Deep.RegionHeld3
namespace Go.Proofs.YtekpdcofjhdiiaaGreatDoor.Val
open Go.RowKit Go.Maps
set_option linter.unusedVariables false
set_option linter.unusedSimpArgs false
set_option maxRecDepth 100000 in
set_option maxHeartbeats 1000000 in
theorem nan_u (x : Int) (w : World) : Calls Tryz.prog 69 #[.int .u64 x] w fun e w' => e = .returned (.bool false) ∧ w = w' := by
  have h : (x != x) = false := by simp
  go_enter Tryz.func69, Tryz.ntmps69
  go_wp2_with fail
  go_ret
  exact ⟨by simp, rfl⟩
set_option maxRecDepth 100000 in
set_option maxHeartbeats 1000000 in
theorem cmp_u (x y : Int) (w : World) : Calls Tryz.prog 54 #[.int .u64 x, .int .u64 y] w fun e w' => e = .returned (.int .i64 (cmpI x y)) ∧ w = w' := by
  by_cases h1 : x < y
  · have d1 : decide (x < y) = true := decide_eq_true h1
    rw [show cmpI x y = -1 from if_pos h1]
    go_enter Tryz.func54, Tryz.ntmps54
    go_wp2_with fail
    refine (nan_u _ _).mono ?_
    rintro e w' ⟨rfl, rfl⟩
    go_wp2_with fail
    refine (nan_u _ _).mono ?_
    rintro e w' ⟨rfl, rfl⟩
    go_wp2_with fail
    go_ret
    exact ⟨rfl, rfl⟩
  · have d1 : decide (x < y) = false := decide_eq_false h1
    by_cases h2 : x = y
    · rw [show cmpI x y = 0 by unfold cmpI; rw [if_neg h1, if_pos h2]]
      have d2 : decide (y < x) = false := decide_eq_false (by omega)
      clear h1 h2
      go_enter Tryz.func54, Tryz.ntmps54
      go_wp2_with fail
      refine (nan_u _ _).mono ?_
      rintro e w' ⟨rfl, rfl⟩
      go_wp2_with fail
      refine (nan_u _ _).mono ?_
      rintro e w' ⟨rfl, rfl⟩
      go_wp2_with fail
      go_ret
      exact ⟨rfl, rfl⟩
    · rw [show cmpI x y = 1 by unfold cmpI; rw [if_neg h1, if_neg h2]]
      have d2 : decide (y < x) = true := decide_eq_true (by omega)
      clear h1 h2
      go_enter Tryz.func54, Tryz.ntmps54
      go_wp2_with fail
      refine (nan_u _ _).mono ?_
      rintro e w' ⟨rfl, rfl⟩
      go_wp2_with fail
      refine (nan_u _ _).mono ?_
      rintro e w' ⟨rfl, rfl⟩
      go_wp2_with fail
      go_ret
      exact ⟨rfl, rfl⟩
set_option maxRecDepth 100000 in
set_option maxHeartbeats 1000000 in
theorem nan_i (x : Int) (w : World) : Calls Tryz.prog 56 #[.int .i64 x] w fun e w' => e = .returned (.bool false) ∧ w = w' := by
  have h : (x != x) = false := by simp
  go_enter Tryz.func56, Tryz.ntmps56
  go_wp2_with fail
  go_ret
  exact ⟨by simp, rfl⟩
set_option maxRecDepth 100000 in
set_option maxHeartbeats 1000000 in
theorem cmp_i (x y : Int) (w : World) : Calls Tryz.prog 34 #[.int .i64 x, .int .i64 y] w fun e w' => e = .returned (.int .i64 (cmpI x y)) ∧ w = w' := by
  by_cases h1 : x < y
  · have d1 : decide (x < y) = true := decide_eq_true h1
    rw [show cmpI x y = -1 from if_pos h1]
    go_enter Tryz.func34, Tryz.ntmps34
    go_wp2_with fail
    refine (nan_i _ _).mono ?_
    rintro e w' ⟨rfl, rfl⟩
    go_wp2_with fail
    refine (nan_i _ _).mono ?_
    rintro e w' ⟨rfl, rfl⟩
    go_wp2_with fail
    go_ret
    exact ⟨rfl, rfl⟩
  · have d1 : decide (x < y) = false := decide_eq_false h1
    by_cases h2 : x = y
    · rw [show cmpI x y = 0 by unfold cmpI; rw [if_neg h1, if_pos h2]]
      have d2 : decide (y < x) = false := decide_eq_false (by omega)
      clear h1 h2
      go_enter Tryz.func34, Tryz.ntmps34
      go_wp2_with fail
      refine (nan_i _ _).mono ?_
      rintro e w' ⟨rfl, rfl⟩
      go_wp2_with fail
      refine (nan_i _ _).mono ?_
      rintro e w' ⟨rfl, rfl⟩
      go_wp2_with fail
      go_ret
      exact ⟨rfl, rfl⟩
    · rw [show cmpI x y = 1 by unfold cmpI; rw [if_neg h1, if_neg h2]]
      have d2 : decide (y < x) = true := decide_eq_true (by omega)
      clear h1 h2
      go_enter Tryz.func34, Tryz.ntmps34
      go_wp2_with fail
      refine (nan_i _ _).mono ?_
      rintro e w' ⟨rfl, rfl⟩
      go_wp2_with fail
      refine (nan_i _ _).mono ?_
      rintro e w' ⟨rfl, rfl⟩
      go_wp2_with fail
      go_ret
      exact ⟨rfl, rfl⟩
set_option maxRecDepth 100000 in
set_option maxHeartbeats 1000000 in
theorem nan_s (x : ByteArray) (w : World) : Calls Tryz.prog 55 #[.string x] w fun e w' => e = .returned (.bool false) ∧ w = w' := by
  have h : (x.toList == x.toList) = true := by simp
  go_enter Tryz.func55, Tryz.ntmps55
  go_wp2_with fail
  go_ret
  exact ⟨by simp, rfl⟩
set_option maxRecDepth 100000 in
set_option maxHeartbeats 1000000 in
theorem cmp_s (x y : ByteArray) (w : World) : Calls Tryz.prog 33 #[.string x, .string y] w fun e w' => e = .returned (.int .i64 (cmpS x.data.toList y.data.toList)) ∧ w = w' := by
  have ex := ByteArray.toList_eq (bs := x)
  have ey := ByteArray.toList_eq (bs := y)
  cases h1 : Op.bytesLess x.data.toList y.data.toList with
  | true =>
    rw [show cmpS x.data.toList y.data.toList = -1 by unfold cmpS; rw [if_pos h1]]
    rw [← ex, ← ey] at h1
    clear ex ey
    go_enter Tryz.func33, Tryz.ntmps33
    go_wp2_with fail
    refine (nan_s _ _).mono ?_
    rintro e w' ⟨rfl, rfl⟩
    go_wp2_with fail
    refine (nan_s _ _).mono ?_
    rintro e w' ⟨rfl, rfl⟩
    go_wp2_with fail
    go_ret
    exact ⟨rfl, rfl⟩
  | false =>
    by_cases h2 : x.data.toList = y.data.toList
    · rw [show cmpS x.data.toList y.data.toList = 0 by unfold cmpS; rw [if_neg (by rw [h1]; decide), if_pos h2]]
      have h3 : (x.toList == y.toList) = true := by rw [ex, ey]; simpa using h2
      rw [← ex, ← ey] at h1
      clear ex ey h2
      go_enter Tryz.func33, Tryz.ntmps33
      go_wp2_with fail
      refine (nan_s _ _).mono ?_
      rintro e w' ⟨rfl, rfl⟩
      go_wp2_with fail
      refine (nan_s _ _).mono ?_
      rintro e w' ⟨rfl, rfl⟩
      go_wp2_with fail
      go_ret
      exact ⟨rfl, rfl⟩
    · rw [show cmpS x.data.toList y.data.toList = 1 by unfold cmpS; rw [if_neg (by rw [h1]; decide), if_neg h2]]
      have h3 : (x.toList == y.toList) = false := by rw [ex, ey]; simpa using h2
      rw [← ex, ← ey] at h1
      clear ex ey h2
      go_enter Tryz.func33, Tryz.ntmps33
      go_wp2_with fail
      refine (nan_s _ _).mono ?_
      rintro e w' ⟨rfl, rfl⟩
      go_wp2_with fail
      refine (nan_s _ _).mono ?_
      rintro e w' ⟨rfl, rfl⟩
      go_wp2_with fail
      go_ret
      exact ⟨rfl, rfl⟩
def orI (a b : Int) : Int := if a = 0 then b else a
set_option maxRecDepth 100000 in
set_option maxHeartbeats 1000000 in
theorem or_any (a b : Int) (g : Nat) (w : World) (h0 : w.cell? ⟨g, 0, none⟩ = some (.int .i64 a)) (h1 : w.cell? ⟨g, 1, none⟩ = some (.int .i64 b)) : Calls Tryz.prog 32 #[.slice (some ⟨g, 0, none⟩) 2 2] w fun e w' => e = .returned (.int .i64 (orI a b)) ∧ w = w' := by
  by_cases ha : a = 0
  · have ea : (a != 0) = false := by rw [ha]; rfl
    rw [show orI a b = b from if_pos ha]
    clear ha
    by_cases hb : b = 0
    · subst hb
      go_enter Tryz.func32, Tryz.ntmps32
      go_wp2_with fail
      refine wp_loop_rounds 3 ?_
      rw [rounds_succ]
      go_wp2_with fail
      rw [rounds_succ]
      go_wp2_with fail
      rw [rounds_succ]
      go_wp2_with fail
      go_ret
      exact ⟨rfl, rfl⟩
    · have eb : (b != 0) = true := bne_iff_ne.2 hb
      clear hb
      go_enter Tryz.func32, Tryz.ntmps32
      go_wp2_with fail
      refine wp_loop_rounds 3 ?_
      rw [rounds_succ]
      go_wp2_with fail
      rw [rounds_succ]
      go_wp2_with fail
      go_ret
      exact ⟨rfl, rfl⟩
  · have ea : (a != 0) = true := bne_iff_ne.2 ha
    rw [show orI a b = a from if_neg ha]
    clear ha
    go_enter Tryz.func32, Tryz.ntmps32
    go_wp2_with fail
    refine wp_loop_rounds 3 ?_
    rw [rounds_succ]
    go_wp2_with fail
    go_ret
    exact ⟨rfl, rfl⟩
end Go.Proofs.YtekpdcofjhdiiaaGreatDoor.Val
