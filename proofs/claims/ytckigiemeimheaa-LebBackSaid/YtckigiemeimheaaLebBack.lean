/-
  The walk of LebBack: it answers true. Its condition: the two texts have at most 2^47 bytes each (the form's own reach).
-/
import Derived.Test.YtckigiemeimheaaLebPlaces
namespace Go.Proofs.Ytckigiemeimheaa.Leb
open Go.RowKit
set_option linter.unusedVariables false

theorem cut_data (l : List UInt8) (k : Nat) : ((ByteArray.mk l.toArray).extract 0 k).data.toList = l.take k := by
  rw [ByteArray.data_extract, Array.toList_extract]
  simp

theorem u64_cut (S : ByteArray) (n : Nat) (w : World) (hS : S.data.toList = (putU 10 n).take ((putU 10 n).length - 1)) (hn : n < 2 ^ 64) :
    Calls Try.prog 16 #[.string S, .int .i64 0] w fun e w' => e = .returned (.tuple #[.int .u64 0, .int .i64 0, .int .i64 2]) ∧ w = w' := by
  have hl : S.data.toList.length = S.size := rfl
  have := putU_len10 n hn
  refine (U64_any S 0 w (by rw [← hl, hS, List.length_take]; unfold maxLen; omega)).mono ?_
  rintro e w' ⟨rfl, rfl⟩
  rw [hS, ansU_cut n 64 hn]
  exact ⟨rfl, rfl⟩
theorem s64_cut (S : ByteArray) (n : Int) (w : World) (hS : S.data.toList = (putS 10 n).take ((putS 10 n).length - 1)) (hn : -(2 ^ 63) ≤ n ∧ n < 2 ^ 63) :
    Calls Try.prog 17 #[.string S, .int .i64 0] w fun e w' => e = .returned (.tuple #[.int .i64 0, .int .i64 0, .int .i64 2]) ∧ w = w' := by
  have hl : S.data.toList.length = S.size := rfl
  have := putS_len10 n hn
  refine (S64_any S 0 w (by rw [← hl, hS, List.length_take]; unfold maxLen; omega)).mono ?_
  rintro e w' ⟨rfl, rfl⟩
  rw [hS, ansS_cut n 64 hn]
  exact ⟨rfl, rfl⟩

set_option maxRecDepth 100000 in
set_option maxHeartbeats 400000 in
theorem back_walk (n : Nat) (m : Int) (ahead more : ByteArray) (w : World) (hn : n < 2 ^ 64) (hm : -(2 ^ 63) ≤ m ∧ m < 2 ^ 63) (h1 : ahead.size ≤ 140737488355328) (h2 : more.size ≤ 140737488355328) :
    Calls Try.prog 5 #[.int .u64 n, .int .i64 m, .string ahead, .string more] w fun e w' => e = .returned (.bool true) ∧ Below w.heap.size w w' := by
  have la := putU_len10 n hn
  have lb := putS_len10 m hm
  have pa := putU_pos n hn
  have pb := putS_pos m hm
  have qa : (((putU 10 n).length : Int) == 0) = false := by rw [beq_eq_false_iff_ne]; omega
  have qb : (((putS 10 m).length : Int) == 0) = false := by rw [beq_eq_false_iff_ne]; omega
  have HN := Lib.hid hn
  have HM := Lib.hid hm
  clear hn hm
  go_enter Try.func5, Try.ntmps5
  go_wp2_with fail
  refine (examples_any _).mono ?_
  rintro e w1 ⟨rfl, b1⟩
  go_wp2_with fail
  refine (putU_any n _ HN.out).mono ?_
  rintro e w2 ⟨rfl, b2⟩
  go_wp2_with fail
  refine (putS_any m _ HM.out).mono ?_
  rintro e w3 ⟨rfl, b3⟩
  go_wp2_with fail
  refine Calls.mono (u64_at _ _ n ahead.data.toList more.data.toList _ ?s1 rfl ?s3 HN.out) ?_
  case s1 => simp only [ByteArray.size_append', ByteArray.size_mk', List.size_toArray]; unfold maxLen; omega
  case s3 => simp [ByteArray.data_append]
  rintro e w6 ⟨rfl, rfl⟩
  go_wp2_with fail
  refine Calls.mono (s64_at _ _ m ahead.data.toList more.data.toList _ ?t1 rfl ?t3 HM.out) ?_
  case t1 => simp only [ByteArray.size_append', ByteArray.size_mk', List.size_toArray]; unfold maxLen; omega
  case t3 => simp [ByteArray.data_append]
  rintro e w6 ⟨rfl, rfl⟩
  go_wp2_with fail
  refine Calls.mono (u64_cut _ n _ ?u3 HN.out) ?_
  case u3 => exact cut_data _ _
  rintro e w6 ⟨rfl, rfl⟩
  go_wp2_with fail
  refine Calls.mono (s64_cut _ m _ ?v3 HM.out) ?_
  case v3 => exact cut_data _ _
  rintro e w6 ⟨rfl, rfl⟩
  go_wp2_with fail
  go_ret
  exact ⟨rfl, (b1.trans (b2.mono b1.size)).trans (b3.mono (Nat.le_trans b1.size b2.size))⟩
end Go.Proofs.Ytckigiemeimheaa.Leb
