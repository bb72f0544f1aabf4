/-
  The reference's parts, order, Compare, Order of chapter 10. No condition beyond what each theorem names.
-/
import Derived.Test.YtekpdcofjhdiiaaGreatDoorValRA
import Derived.Test.YtekpdcofjhdiiaaGreatDoorValJ
import Derived.Deep.QuietTactic
import Derived.BigQuiet
namespace Go.Proofs.YtekpdcofjhdiiaaGreatDoor.Val
open Go.RowKit Go.Maps
set_option linter.unusedVariables false
set_option linter.unusedSimpArgs false
set_option maxRecDepth 100000 in
set_option maxHeartbeats 1000000 in
theorem rorder_any (a b : Bool) (w : World) (c : Int) (hc : (if a then -1 else if b then 1 else 0 : Int) = c) : Calls Tryz.prog 36 #[.bool a, .bool b] w fun e w' => e = .returned (.int .i64 c) ∧ w = w' := by
  subst hc
  cases a <;> cases b
  all_goals
    go_enter Tryz.func36, Tryz.ntmps36
    go_wp2_with fail
    go_ret
    exact ⟨rfl, rfl⟩
set_option maxRecDepth 100000 in
set_option maxHeartbeats 2000000 in
theorem rparts_any (n : Int) (k : Nat) (hk : k ≤ 9) (q r : Int) (hq : wrap64 (n.tdiv (ten k)) = q) (hr : wrap64 (n.tmod (ten k) * ten (9 - k)) = r) (w : World) : Calls Tryz.prog 37 #[.int .i64 n, .int .i64 k] w fun e w' => e = .returned (.tuple #[.int .i64 q, .int .i64 r]) ∧ Below w.heap.size w w' := by
  have HQ := Lib.hid hq
  have HR := Lib.hid hr
  clear hq hr
  go_enter Tryz.func37, Tryz.ntmps37
  go_wp2_with fail
  go_loop [6, 7, 8] (fun u s i => ∃ j : Nat, j ≤ 9 ∧ i = .int .i64 j ∧ u = .int .i64 (ten (min j k)) ∧ s = .int .i64 (ten (j - k))) (fun _ _ i => 9 - (intOf i).toNat)
  case atStart => exact ⟨0, by omega, rfl, by rw [Nat.zero_min]; rfl, by rw [Nat.zero_sub]; rfl⟩
  case round =>
    obtain ⟨j, hj, rfl, rfl, rfl⟩ := hrel
    by_cases h9 : j < 9
    · have hd : decide (j < 9) = true := decide_eq_true h9
      by_cases hlt : j < k
      · have hd2 : decide (j < k) = true := decide_eq_true hlt
        have e1 : min j k = j := by omega
        have e2 : min (j + 1) k = j + 1 := by omega
        have e3 : j - k = 0 := by omega
        have e4 : j + 1 - k = 0 := by omega
        have HS := Lib.hid (ten_succ j)
        have t1 := ten_pos j
        have t2 := ten_le j (by omega)
        rw [e1, e3]
        obtain ⟨T, hT⟩ : ∃ T, ten j = T := ⟨_, rfl⟩
        have HT := Lib.hid hT
        rw [hT] at t1 t2 ⊢
        clear hT
        go_wp2_with fail
        go_round
        case rel => exact ⟨j + 1, by omega, by go_num, by rw [e2, HS.out, HT.out], by rw [e4]⟩
        case measure => simp [intOf]; omega
      · have hd2 : decide (j < k) = false := decide_eq_false hlt
        have e1 : min j k = k := by omega
        have e2 : min (j + 1) k = k := by omega
        have e4 : j + 1 - k = (j - k) + 1 := by omega
        have HS := Lib.hid (ten_succ (j - k))
        have t1 := ten_pos (j - k)
        have t2 := ten_le (j - k) (by omega)
        rw [e1]
        obtain ⟨T, hT⟩ : ∃ T, ten (j - k) = T := ⟨_, rfl⟩
        have HT := Lib.hid hT
        rw [hT] at t1 t2 ⊢
        clear hT
        go_wp2_with fail
        go_round
        case rel => exact ⟨j + 1, by omega, by go_num, by rw [e2], by rw [e4, HS.out, HT.out]⟩
        case measure => simp [intOf]; omega
    · obtain rfl : j = 9 := by omega
      rw [show min 9 k = k by omega, show ((9 : Nat) : Int) = 9 from rfl]
      have hp := ten_pos k
      have hq := HQ.out
      have hr := HR.out
      obtain ⟨U, hU⟩ : ∃ U, ten k = U := ⟨_, rfl⟩
      obtain ⟨R, hR⟩ : ∃ R, ten (9 - k) = R := ⟨_, rfl⟩
      rw [hU] at hp hq hr ⊢
      rw [hR] at hr ⊢
      have hn : ¬ U = 0 := by omega
      have hn2 : (U == 0) = false := by simpa using hn
      clear hU hR HQ HR
      go_wp2_with fail
      go_quiet (fail)
      go_wp2_with fail
      go_ret2
      exact ⟨by show Ending.returned (.tuple #[.int .i64 (wrap64 (n.tdiv U)), .int .i64 (wrap64 (n.tmod U * R))]) = _; rw [hq, hr], (Below.refl _ _).trans ⟨rfl, rfl, rfl, Nat.le_refl _, fun _ _ => rfl⟩⟩
end Go.Proofs.YtekpdcofjhdiiaaGreatDoor.Val
