/-
  The walk of LebRoom: it answers true. No condition beyond what each theorem names.
-/
import Derived.Test.YtckigiemeimheaaLebEx
namespace Go.Proofs.Ytckigiemeimheaa.Leb
open Go.RowKit
set_option linter.unusedVariables false

theorem list_of (l : List UInt8) : (ByteArray.mk l.toArray).data.toList = l := rfl

theorem u32_put (n : Nat) (w : World) (hn : n < 2 ^ 64) : Calls Try.prog 18 #[.string ⟨(putU 10 n).toArray⟩, .int .i64 0] w fun e w' =>
    (e = .returned (if n < 2 ^ 32 then .tuple #[.int .u32 (n : Int), .int .i64 ((putU 10 n).length : Nat), .int .i64 0] else .tuple #[.int .u32 0, .int .i64 0, .int .i64 2])) ∧ w = w' := by
  refine (U32_any ⟨(putU 10 n).toArray⟩ 0 w (by have := putU_len10 n hn; show (putU 10 n).toArray.size ≤ _; simp; unfold maxLen; omega)).mono ?_
  rintro e w' ⟨rfl, rfl⟩
  refine ⟨?_, rfl⟩
  have h := ansU32_put n [] [] 0 rfl hn
  rw [List.append_nil, List.nil_append] at h
  rw [list_of, h]
  split <;> simp

theorem s32_put (n : Int) (w : World) (hn : -(2 ^ 63) ≤ n ∧ n < 2 ^ 63) : Calls Try.prog 19 #[.string ⟨(putS 10 n).toArray⟩, .int .i64 0] w fun e w' =>
    (e = .returned (if -(2 ^ 31) ≤ n ∧ n < 2 ^ 31 then .tuple #[.int .i32 (n : Int), .int .i64 ((putS 10 n).length : Nat), .int .i64 0] else .tuple #[.int .i32 0, .int .i64 0, .int .i64 2])) ∧ w = w' := by
  refine (S32_any ⟨(putS 10 n).toArray⟩ 0 w (by have := putS_len10 n hn; show (putS 10 n).toArray.size ≤ _; simp; unfold maxLen; omega)).mono ?_
  rintro e w' ⟨rfl, rfl⟩
  refine ⟨?_, rfl⟩
  have h := ansS32_put n [] [] 0 rfl hn
  rw [List.append_nil, List.nil_append] at h
  rw [list_of, h]
  split <;> simp

set_option maxRecDepth 100000 in
set_option maxHeartbeats 400000 in
theorem room_walk (n : Nat) (m : Int) (w : World) (hn : n < 2 ^ 64) (hm : -(2 ^ 63) ≤ m ∧ m < 2 ^ 63) :
    Calls Try.prog 6 #[.int .u64 n, .int .i64 m] w fun e w' => e = .returned (.bool true) ∧ Below w.heap.size w w' := by
  have HN := Lib.hid hn
  have HM := Lib.hid hm
  clear hn hm
  by_cases h1 : n < 2 ^ 32
  · have HU := fun w => u32_put n w HN.out
    simp only [if_pos h1] at HU
    have HU' := Lib.hid HU
    have h5 : (n : Int) < 4294967296 := by omega
    clear HU h1
    by_cases h2 : -(2 ^ 31) ≤ m ∧ m < 2 ^ 31
    · have HS := fun w => s32_put m w HM.out
      simp only [if_pos h2] at HS
      have HS' := Lib.hid HS
      have h3 : -2147483648 ≤ m := h2.1
      have h4 : m < 2147483648 := h2.2
      clear HS h2
      go_enter Try.func6, Try.ntmps6
      go_wp2_with fail
      refine (examples_any _).mono ?_
      rintro e w1 ⟨rfl, b1⟩
      go_wp2_with fail
      refine (putU_any n _ HN.out).mono ?_
      rintro e w2 ⟨rfl, b2⟩
      go_wp2_with fail
      refine (HU'.out _).mono ?_
      rintro e w3 ⟨rfl, rfl⟩
      go_wp2_with fail
      refine (putS_any m _ HM.out).mono ?_
      rintro e w4 ⟨rfl, b4⟩
      go_wp2_with fail
      refine (HS'.out _).mono ?_
      rintro e w5 ⟨rfl, rfl⟩
      go_wp2_with fail
      go_ret
      exact ⟨rfl, (b1.trans (b2.mono b1.size)).trans (b4.mono (Nat.le_trans b1.size b2.size))⟩
    · have HS := fun w => s32_put m w HM.out
      simp only [if_neg h2] at HS
      have HS' := Lib.hid HS
      clear HS
      by_cases h3 : -2147483648 ≤ m
      · have h4 : decide (m < 2147483648) = false := decide_eq_false (by omega)
        clear h2
        go_enter Try.func6, Try.ntmps6
        go_wp2_with fail
        refine (examples_any _).mono ?_
        rintro e w1 ⟨rfl, b1⟩
        go_wp2_with fail
        refine (putU_any n _ HN.out).mono ?_
        rintro e w2 ⟨rfl, b2⟩
        go_wp2_with fail
        refine (HU'.out _).mono ?_
        rintro e w3 ⟨rfl, rfl⟩
        go_wp2_with fail
        refine (putS_any m _ HM.out).mono ?_
        rintro e w4 ⟨rfl, b4⟩
        go_wp2_with fail
        refine (HS'.out _).mono ?_
        rintro e w5 ⟨rfl, rfl⟩
        go_wp2_with fail
        go_ret
        exact ⟨rfl, (b1.trans (b2.mono b1.size)).trans (b4.mono (Nat.le_trans b1.size b2.size))⟩
      · have h6 : decide (-2147483648 ≤ m) = false := decide_eq_false h3
        clear h2 h3
        go_enter Try.func6, Try.ntmps6
        go_wp2_with fail
        refine (examples_any _).mono ?_
        rintro e w1 ⟨rfl, b1⟩
        go_wp2_with fail
        refine (putU_any n _ HN.out).mono ?_
        rintro e w2 ⟨rfl, b2⟩
        go_wp2_with fail
        refine (HU'.out _).mono ?_
        rintro e w3 ⟨rfl, rfl⟩
        go_wp2_with fail
        refine (putS_any m _ HM.out).mono ?_
        rintro e w4 ⟨rfl, b4⟩
        go_wp2_with fail
        refine (HS'.out _).mono ?_
        rintro e w5 ⟨rfl, rfl⟩
        go_wp2_with fail
        go_ret
        exact ⟨rfl, (b1.trans (b2.mono b1.size)).trans (b4.mono (Nat.le_trans b1.size b2.size))⟩
  · have HU := fun w => u32_put n w HN.out
    simp only [if_neg h1] at HU
    have HU' := Lib.hid HU
    have h5 : decide ((n : Int) < 4294967296) = false := decide_eq_false (by omega)
    clear HU h1
    by_cases h2 : -(2 ^ 31) ≤ m ∧ m < 2 ^ 31
    · have HS := fun w => s32_put m w HM.out
      simp only [if_pos h2] at HS
      have HS' := Lib.hid HS
      have h3 : -2147483648 ≤ m := h2.1
      have h4 : m < 2147483648 := h2.2
      clear HS h2
      go_enter Try.func6, Try.ntmps6
      go_wp2_with fail
      refine (examples_any _).mono ?_
      rintro e w1 ⟨rfl, b1⟩
      go_wp2_with fail
      refine (putU_any n _ HN.out).mono ?_
      rintro e w2 ⟨rfl, b2⟩
      go_wp2_with fail
      refine (HU'.out _).mono ?_
      rintro e w3 ⟨rfl, rfl⟩
      go_wp2_with fail
      refine (putS_any m _ HM.out).mono ?_
      rintro e w4 ⟨rfl, b4⟩
      go_wp2_with fail
      refine (HS'.out _).mono ?_
      rintro e w5 ⟨rfl, rfl⟩
      go_wp2_with fail
      go_ret
      exact ⟨rfl, (b1.trans (b2.mono b1.size)).trans (b4.mono (Nat.le_trans b1.size b2.size))⟩
    · have HS := fun w => s32_put m w HM.out
      simp only [if_neg h2] at HS
      have HS' := Lib.hid HS
      clear HS
      by_cases h3 : -2147483648 ≤ m
      · have h4 : decide (m < 2147483648) = false := decide_eq_false (by omega)
        clear h2
        go_enter Try.func6, Try.ntmps6
        go_wp2_with fail
        refine (examples_any _).mono ?_
        rintro e w1 ⟨rfl, b1⟩
        go_wp2_with fail
        refine (putU_any n _ HN.out).mono ?_
        rintro e w2 ⟨rfl, b2⟩
        go_wp2_with fail
        refine (HU'.out _).mono ?_
        rintro e w3 ⟨rfl, rfl⟩
        go_wp2_with fail
        refine (putS_any m _ HM.out).mono ?_
        rintro e w4 ⟨rfl, b4⟩
        go_wp2_with fail
        refine (HS'.out _).mono ?_
        rintro e w5 ⟨rfl, rfl⟩
        go_wp2_with fail
        go_ret
        exact ⟨rfl, (b1.trans (b2.mono b1.size)).trans (b4.mono (Nat.le_trans b1.size b2.size))⟩
      · have h6 : decide (-2147483648 ≤ m) = false := decide_eq_false h3
        clear h2 h3
        go_enter Try.func6, Try.ntmps6
        go_wp2_with fail
        refine (examples_any _).mono ?_
        rintro e w1 ⟨rfl, b1⟩
        go_wp2_with fail
        refine (putU_any n _ HN.out).mono ?_
        rintro e w2 ⟨rfl, b2⟩
        go_wp2_with fail
        refine (HU'.out _).mono ?_
        rintro e w3 ⟨rfl, rfl⟩
        go_wp2_with fail
        refine (putS_any m _ HM.out).mono ?_
        rintro e w4 ⟨rfl, b4⟩
        go_wp2_with fail
        refine (HS'.out _).mono ?_
        rintro e w5 ⟨rfl, rfl⟩
        go_wp2_with fail
        go_ret
        exact ⟨rfl, (b1.trans (b2.mono b1.size)).trans (b4.mono (Nat.le_trans b1.size b2.size))⟩
end Go.Proofs.Ytckigiemeimheaa.Leb
