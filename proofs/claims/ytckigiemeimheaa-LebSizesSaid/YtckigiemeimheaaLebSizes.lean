/-
  The walk of LebSizes: it answers true. No condition beyond what the theorem names.
-/
import Derived.Test.YtckigiemeimheaaLebEx
namespace Go.Proofs.Ytckigiemeimheaa.Leb
open Go.RowKit
set_option linter.unusedVariables false

theorem shr_pos (n k : Nat) : decide ((0 : Int) < (n : Int) / 2 ^ k) = decide (2 ^ k ≤ n) := by
  have hc : ((2 : Int) ^ k) = ((2 ^ k : Nat) : Int) := by rw [Int.natCast_pow]; rfl
  have hp : 0 < (2 : Nat) ^ k := Nat.pow_pos (by decide)
  rw [hc, ← Int.natCast_ediv, decide_eq_decide]
  have := Nat.div_pos_iff (a := n) (b := 2 ^ k)
  omega

theorem top64 (n k : Nat) (h : n < 2 ^ 64) (hk : k ≤ 64) (h1 : ¬ k < 64) : ¬ 2 ^ k ≤ n := by
  have e : k = 64 := by omega
  subst e
  omega

/-- moved right by j with its sign: 0 or -1 just if it has at most j bits -/
theorem sar_in (m : Int) (j : Nat) (h : -(2 ^ j : Int) ≤ m ∧ m < (2 ^ j : Int)) : m / 2 ^ j = if 0 ≤ m then 0 else -1 := by
  have hp : (0 : Int) < 2 ^ j := Int.pow_pos (by decide)
  split
  · exact Int.ediv_eq_zero_of_lt (by omega) (by omega)
  · rw [Int.ediv_eq_iff_of_pos hp] <;> omega
theorem sar_out (m : Int) (j : Nat) (h : ¬ (-(2 ^ j : Int) ≤ m ∧ m < (2 ^ j : Int))) : ¬ m / 2 ^ j = 0 ∧ ¬ m / 2 ^ j = -1 := by
  have hp : (0 : Int) < 2 ^ j := Int.pow_pos (by decide)
  constructor
  · intro e
    rw [Int.ediv_eq_iff_of_pos hp] at e
    omega
  · intro e
    rw [Int.ediv_eq_iff_of_pos hp] at e
    omega

set_option maxRecDepth 100000 in
set_option maxHeartbeats 1000000 in
theorem sizes_walk (n : Nat) (m : Int) (w : World) (hn : n < 2 ^ 64) (hm : -(2 ^ 63) ≤ m ∧ m < 2 ^ 63) :
    Calls Try.prog 4 #[.int .u64 n, .int .i64 m] w fun e w' => e = .returned (.bool true) ∧ Below w.heap.size w w' := by
  have HN := Lib.hid hn
  have HM := Lib.hid hm
  clear hn hm
  go_enter Try.func4, Try.ntmps4
  go_wp2_with fail
  refine (examples_any _).mono ?_
  rintro e w1 ⟨rfl, b1⟩
  go_wp2_with fail
  go_loop [6] (fun b => ∃ k : Nat, k ≤ 64 ∧ (k = 0 ∨ 2 ^ (k - 1) ≤ n) ∧ b = .int .i64 k) (fun b => 64 - (intOf b).toNat)
  case atStart => exact ⟨0, by omega, .inl rfl, rfl⟩
  case round =>
    obtain ⟨k, hk, hpre, rfl⟩ := hrel
    have HP := Lib.hid hpre
    clear hpre
    by_cases h1 : k < 64
    · by_cases h2 : 2 ^ k ≤ n
      · have hd : decide ((0 : Int) < (n : Int) / 2 ^ k) = true := by rw [shr_pos]; exact decide_eq_true h2
        have H2 := Lib.hid h2
        clear h2
        go_wp2_with fail
        exact ⟨⟨k + 1, by omega, .inr (by simpa using H2.out), by go_num⟩, by simp [intOf]; omega⟩
      · have hd : decide ((0 : Int) < (n : Int) / 2 ^ k) = false := by rw [shr_pos]; exact decide_eq_false h2
        have H2 := Lib.hid h2
        clear h2
        have HU := Lib.hid (show (putU 10 n).length = (max k 1 + 6) / 7 from putU_size 10 n k (by have := H2.out; omega) HP.out (by omega) (by omega))
        go_wp2_with fail
        go_loop [7] (fun b => ∃ j : Nat, j < 64 ∧ (j = 0 ∨ m < -(2 ^ (j - 1) : Int) ∨ (2 ^ (j - 1) : Int) ≤ m) ∧ b = .int .i64 ((j : Int) + 1)) (fun b => 64 - (intOf b).toNat)
        case atStart => exact ⟨0, by omega, .inl rfl, rfl⟩
        case round =>
          obtain ⟨j, hj, hpre2, rfl⟩ := hrel
          have HQ := Lib.hid hpre2
          clear hpre2
          by_cases h3 : -(2 ^ j : Int) ≤ m ∧ m < (2 ^ j : Int)
          · have HV := Lib.hid (show (putS 10 m).length = (j + 1 + 6) / 7 from putS_size 10 m j h3 HQ.out (by omega) (by omega))
            have hv : ((((putS 10 m).length : Nat) : Int) == ((j : Int) + 1 + 6) / 7) = true := by
              rw [beq_iff_eq, HV.out]
              omega
            have hu1 : 7 * (putU 10 n).length ≤ max k 1 + 6 := by have := HU.out; omega
            have hu2 : max k 1 + 6 < 7 * (putU 10 n).length + 7 := by have := HU.out; omega
            have hsar := sar_in m j h3
            clear h3
            by_cases h5 : j < 63
            · have h6 : (j : Int) + 1 < 64 := by omega
              by_cases h4 : 0 ≤ m
              · rw [if_pos h4] at hsar
                clear h4
                go_wp2_with fail
                refine (putU_any n _ HN.out).mono ?_
                rintro e w2 ⟨rfl, b2⟩
                go_wp2_with fail
                all_goals
                  refine (putS_any m _ HM.out).mono ?_
                  rintro e w3 ⟨rfl, b3⟩
                  go_wp2_with fail
                  go_ret
                  exact ⟨rfl, (b1.trans (b2.mono b1.size)).trans (b3.mono (Nat.le_trans b1.size b2.size))⟩
              · rw [if_neg h4] at hsar
                clear h4
                go_wp2_with fail
                refine (putU_any n _ HN.out).mono ?_
                rintro e w2 ⟨rfl, b2⟩
                go_wp2_with fail
                all_goals
                  refine (putS_any m _ HM.out).mono ?_
                  rintro e w3 ⟨rfl, b3⟩
                  go_wp2_with fail
                  go_ret
                  exact ⟨rfl, (b1.trans (b2.mono b1.size)).trans (b3.mono (Nat.le_trans b1.size b2.size))⟩
            · have h6 : decide ((j : Int) + 1 < 64) = false := decide_eq_false (by omega)
              clear hsar
              go_wp2_with fail
              refine (putU_any n _ HN.out).mono ?_
              rintro e w2 ⟨rfl, b2⟩
              go_wp2_with fail
              all_goals
                refine (putS_any m _ HM.out).mono ?_
                rintro e w3 ⟨rfl, b3⟩
                go_wp2_with fail
                go_ret
                exact ⟨rfl, (b1.trans (b2.mono b1.size)).trans (b3.mono (Nat.le_trans b1.size b2.size))⟩
          · obtain ⟨n1, n2⟩ := sar_out m j h3
            have h6 : (j : Int) + 1 < 64 := by
              have := HM.out
              have h8 : j ≠ 63 := by
                intro e
                subst e
                exact h3 this
              omega
            have HH := Lib.hid h3
            clear h3
            have n3 : (m / 2 ^ j != 0) = true := by rw [bne_iff_ne]; exact n1
            have n4 : (m / 2 ^ j != -1) = true := by rw [bne_iff_ne]; exact n2
            go_wp2_with fail
            exact ⟨⟨j + 1, by omega, .inr (by have := HH.out; simp only [Nat.add_sub_cancel]; omega), by go_num⟩, by simp [intOf]; omega⟩
    · have H2 := Lib.hid (top64 n k HN.out hk h1)
      have HU := Lib.hid (show (putU 10 n).length = (max k 1 + 6) / 7 from putU_size 10 n k (by have := H2.out; omega) HP.out (by omega) (by omega))
      go_wp2_with fail
      go_loop [7] (fun b => ∃ j : Nat, j < 64 ∧ (j = 0 ∨ m < -(2 ^ (j - 1) : Int) ∨ (2 ^ (j - 1) : Int) ≤ m) ∧ b = .int .i64 ((j : Int) + 1)) (fun b => 64 - (intOf b).toNat)
      case atStart => exact ⟨0, by omega, .inl rfl, rfl⟩
      case round =>
        obtain ⟨j, hj, hpre2, rfl⟩ := hrel
        have HQ := Lib.hid hpre2
        clear hpre2
        by_cases h3 : -(2 ^ j : Int) ≤ m ∧ m < (2 ^ j : Int)
        · have HV := Lib.hid (show (putS 10 m).length = (j + 1 + 6) / 7 from putS_size 10 m j h3 HQ.out (by omega) (by omega))
          have hv : ((((putS 10 m).length : Nat) : Int) == ((j : Int) + 1 + 6) / 7) = true := by
            rw [beq_iff_eq, HV.out]
            omega
          have hu1 : 7 * (putU 10 n).length ≤ max k 1 + 6 := by have := HU.out; omega
          have hu2 : max k 1 + 6 < 7 * (putU 10 n).length + 7 := by have := HU.out; omega
          have hsar := sar_in m j h3
          clear h3
          by_cases h5 : j < 63
          · have h6 : (j : Int) + 1 < 64 := by omega
            by_cases h4 : 0 ≤ m
            · rw [if_pos h4] at hsar
              clear h4
              go_wp2_with fail
              refine (putU_any n _ HN.out).mono ?_
              rintro e w2 ⟨rfl, b2⟩
              go_wp2_with fail
              all_goals
                refine (putS_any m _ HM.out).mono ?_
                rintro e w3 ⟨rfl, b3⟩
                go_wp2_with fail
                go_ret
                exact ⟨rfl, (b1.trans (b2.mono b1.size)).trans (b3.mono (Nat.le_trans b1.size b2.size))⟩
            · rw [if_neg h4] at hsar
              clear h4
              go_wp2_with fail
              refine (putU_any n _ HN.out).mono ?_
              rintro e w2 ⟨rfl, b2⟩
              go_wp2_with fail
              all_goals
                refine (putS_any m _ HM.out).mono ?_
                rintro e w3 ⟨rfl, b3⟩
                go_wp2_with fail
                go_ret
                exact ⟨rfl, (b1.trans (b2.mono b1.size)).trans (b3.mono (Nat.le_trans b1.size b2.size))⟩
          · have h6 : decide ((j : Int) + 1 < 64) = false := decide_eq_false (by omega)
            clear hsar
            go_wp2_with fail
            refine (putU_any n _ HN.out).mono ?_
            rintro e w2 ⟨rfl, b2⟩
            go_wp2_with fail
            all_goals
              refine (putS_any m _ HM.out).mono ?_
              rintro e w3 ⟨rfl, b3⟩
              go_wp2_with fail
              go_ret
              exact ⟨rfl, (b1.trans (b2.mono b1.size)).trans (b3.mono (Nat.le_trans b1.size b2.size))⟩
        · obtain ⟨n1, n2⟩ := sar_out m j h3
          have h6 : (j : Int) + 1 < 64 := by
            have := HM.out
            have h8 : j ≠ 63 := by
              intro e
              subst e
              exact h3 this
            omega
          have HH := Lib.hid h3
          clear h3
          have n3 : (m / 2 ^ j != 0) = true := by rw [bne_iff_ne]; exact n1
          have n4 : (m / 2 ^ j != -1) = true := by rw [bne_iff_ne]; exact n2
          go_wp2_with fail
          exact ⟨⟨j + 1, by omega, .inr (by have := HH.out; simp only [Nat.add_sub_cancel]; omega), by go_num⟩, by simp [intOf]; omega⟩
end Go.Proofs.Ytckigiemeimheaa.Leb
