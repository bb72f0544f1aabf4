/-
  The walk of LebTwo: it answers true. No condition beyond what the theorem names.
-/
import Derived.Test.YtckigiemeimheaaLebPlaces
namespace Go.Proofs.Ytckigiemeimheaa.Leb
open Go.RowKit
set_option linter.unusedVariables false

set_option maxRecDepth 100000 in
set_option maxHeartbeats 400000 in
theorem two_walk (a : Nat) (b : Int) (c : Nat) (d : Int) (w : World) (ha : a < 2 ^ 32) (hb : -(2 ^ 31) ≤ b ∧ b < 2 ^ 31) (hc : c < 2 ^ 64) (hd : -(2 ^ 63) ≤ d ∧ d < 2 ^ 63) :
    Calls Try.prog 10 #[.int .u32 a, .int .i32 b, .int .u64 c, .int .i64 d] w fun e w' => e = .returned (.bool true) ∧ Below w.heap.size w w' := by
  have la := putU_len10 a (by omega)
  have lb := putS_len10 b (by omega)
  have lc := putU_len10 c hc
  have ld := putS_len10 d hd
  have ea : IntKind.u64.wrap (a : Int) = (a : Int) := by rw [IntKind.wrap_u64]; omega
  have eb : IntKind.i64.wrap b = b := by rw [IntKind.wrap_i64]; omega
  have eb' : wrap64 b = b := by unfold wrap64; omega
  have HA := Lib.hid ha
  have HB := Lib.hid hb
  have HC := Lib.hid hc
  have HD := Lib.hid hd
  clear ha hb hc hd
  go_enter Try.func10, Try.ntmps10
  go_wp2_with fail
  refine (examples_any _).mono ?_
  rintro e w1 ⟨rfl, b1⟩
  go_wp2_with fail
  refine (putU_any a _ (by have := HA.out; omega)).mono ?_
  rintro e w2 ⟨rfl, b2⟩
  go_wp2_with fail
  refine (putS_any b _ (by have := HB.out; omega)).mono ?_
  rintro e w3 ⟨rfl, b3⟩
  go_wp2_with fail
  refine (putU_any c _ HC.out).mono ?_
  rintro e w4 ⟨rfl, b4⟩
  go_wp2_with fail
  refine (putS_any d _ HD.out).mono ?_
  rintro e w5 ⟨rfl, b5⟩
  go_wp2_with fail
  refine Calls.mono (u32_at _ _ a ([]) (putS 10 b ++ (putU 10 c ++ putS 10 d)) _ ?s1 ?s2 ?s3 HA.out) ?_
  case s1 => simp only [ByteArray.size_append', ByteArray.size_mk', List.size_toArray]; unfold maxLen; omega
  case s2 => rfl
  case s3 => simp [ByteArray.data_append]
  rintro e w6 ⟨rfl, rfl⟩
  go_wp2_with fail
  refine Calls.mono (s32_at _ _ b (putU 10 a) (putU 10 c ++ putS 10 d) _ ?t1 ?t2 ?t3 HB.out) ?_
  case t1 => simp only [ByteArray.size_append', ByteArray.size_mk', List.size_toArray]; unfold maxLen; omega
  case t2 => (simp; try omega)
  case t3 => simp [ByteArray.data_append]
  rintro e w6 ⟨rfl, rfl⟩
  go_wp2_with fail
  refine Calls.mono (u64_at _ _ c (putU 10 a ++ putS 10 b) (putS 10 d) _ ?u1 ?u2 ?u3 HC.out) ?_
  case u1 => simp only [ByteArray.size_append', ByteArray.size_mk', List.size_toArray]; unfold maxLen; omega
  case u2 => (simp; try omega)
  case u3 => simp [ByteArray.data_append]
  rintro e w6 ⟨rfl, rfl⟩
  go_wp2_with fail
  refine Calls.mono (s64_at _ _ d (putU 10 a ++ (putS 10 b ++ putU 10 c)) ([]) _ ?v1 ?v2 ?v3 HD.out) ?_
  case v1 => simp only [ByteArray.size_append', ByteArray.size_mk', List.size_toArray]; unfold maxLen; omega
  case v2 => (simp; try omega)
  case v3 => simp [ByteArray.data_append]
  rintro e w6 ⟨rfl, rfl⟩
  go_wp2_with fail
  go_ret
  exact ⟨rfl, (((b1.trans (b2.mono b1.size)).trans (b3.mono (Nat.le_trans b1.size b2.size))).trans (b4.mono (Nat.le_trans (Nat.le_trans b1.size b2.size) b3.size))).trans (b5.mono (Nat.le_trans (Nat.le_trans (Nat.le_trans b1.size b2.size) b3.size) b4.size))⟩
end Go.Proofs.Ytckigiemeimheaa.Leb
