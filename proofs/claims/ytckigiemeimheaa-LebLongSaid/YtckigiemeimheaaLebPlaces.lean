/-
  The walks of LebPlaces, LebTwo and LebBack: they answer true. No condition beyond what each theorem names.
-/
import Derived.Test.YtckigiemeimheaaLebEx
namespace Go.Proofs.Ytckigiemeimheaa.Leb
open Go.RowKit
set_option linter.unusedVariables false

theorem ansU_out {bits : Nat} {l : List UInt8} {at_ : Int} (h : at_ < 0 ∨ (l.length : Int) < at_) : ansU bits l at_ = (0, 0, 1) := by
  unfold ansU; rw [if_pos h]
theorem ansS_out {bits : Nat} {l : List UInt8} {at_ : Int} (h : at_ < 0 ∨ (l.length : Int) < at_) : ansS bits l at_ = (0, 0, 1) := by
  unfold ansS; rw [if_pos h]
theorem ansU_in {bits : Nat} {l : List UInt8} {at_ : Int} (h : ¬ (at_ < 0 ∨ (l.length : Int) < at_)) : ((ansU bits l at_).2.2 == 1) = false := by
  unfold ansU; rw [if_neg h]
  cases readU bits (l.drop at_.toNat) <;> rfl
theorem ansS_in {bits : Nat} {l : List UInt8} {at_ : Int} (h : ¬ (at_ < 0 ∨ (l.length : Int) < at_)) : ((ansS bits l at_).2.2 == 1) = false := by
  unfold ansS; rw [if_neg h]
  cases readS bits (l.drop at_.toNat) <;> rfl
theorem ansS_end (bits : Nat) (l : List UInt8) (hb : 1 ≤ bits) : ansS bits l (l.length : Int) = (0, 0, 2) := by
  have := ansS_at bits l [] l.length rfl
  rw [List.append_nil] at this
  rw [this]
  unfold readS
  obtain ⟨k, hk⟩ : ∃ k, (bits + 6) / 7 = k + 1 := ⟨(bits + 6) / 7 - 1, by omega⟩
  rw [hk]
  rfl

theorem s32_end (s : ByteArray) (w : World) (hs : s.size ≤ maxLen) : Calls Try.prog 19 #[.string s, .int .i64 s.size] w fun e w' =>
    e = .returned (.tuple #[.int .i32 0, .int .i64 0, .int .i64 2]) ∧ w = w' := by
  refine (S32_any s s.size w hs).mono ?_
  rintro e w' ⟨rfl, rfl⟩
  have e1 := ansS_end 32 s.data.toList (by decide)
  have e2 : (s.data.toList.length : Int) = s.size := rfl
  rw [e2] at e1
  rw [e1]
  exact ⟨rfl, rfl⟩

set_option maxRecDepth 100000 in
set_option maxHeartbeats 400000 in
theorem places_walk (s : ByteArray) (at_ : Int) (w : World) (hs : s.size ≤ maxLen) :
    Calls Try.prog 8 #[.string s, .int .i64 at_] w fun e w' => e = .returned (.bool true) ∧ Below w.heap.size w w' := by
  have HS := Lib.hid hs
  clear hs
  by_cases hout : at_ < 0 ∨ (s.size : Int) < at_
  · have HU := fun w => U32_any s at_ w HS.out
    have HV := fun w => S64_any s at_ w HS.out
    rw [ansU_out (show at_ < 0 ∨ (s.data.toList.length : Int) < at_ from hout)] at HU
    rw [ansS_out (show at_ < 0 ∨ (s.data.toList.length : Int) < at_ from hout)] at HV
    have HU' := Lib.hid HU
    have HV' := Lib.hid HV
    clear HU HV
    by_cases h1 : at_ < 0
    · clear hout
      go_enter Try.func8, Try.ntmps8
      go_wp2_with fail
      refine (examples_any _).mono ?_
      rintro e w1 ⟨rfl, b1⟩
      go_wp2_with fail
      refine (HU'.out _).mono ?_
      rintro e w2 ⟨rfl, rfl⟩
      go_wp2_with fail
      refine (HV'.out _).mono ?_
      rintro e w2 ⟨rfl, rfl⟩
      go_wp2_with fail
      refine (s32_end s _ HS.out).mono ?_
      rintro e w2 ⟨rfl, rfl⟩
      go_wp2_with fail
      go_ret
      exact ⟨rfl, b1⟩
    · have h2 : (s.size : Int) < at_ := by omega
      clear hout
      go_enter Try.func8, Try.ntmps8
      go_wp2_with fail
      refine (examples_any _).mono ?_
      rintro e w1 ⟨rfl, b1⟩
      go_wp2_with fail
      refine (HU'.out _).mono ?_
      rintro e w2 ⟨rfl, rfl⟩
      go_wp2_with fail
      refine (HV'.out _).mono ?_
      rintro e w2 ⟨rfl, rfl⟩
      go_wp2_with fail
      refine (s32_end s _ HS.out).mono ?_
      rintro e w2 ⟨rfl, rfl⟩
      go_wp2_with fail
      go_ret
      exact ⟨rfl, b1⟩
  · have e1 := ansU_in (bits := 32) (show ¬ (at_ < 0 ∨ (s.data.toList.length : Int) < at_) from hout)
    have e2 := ansS_in (bits := 64) (show ¬ (at_ < 0 ∨ (s.data.toList.length : Int) < at_) from hout)
    have h1 : ¬ at_ < 0 := by omega
    have h2 : ¬ (s.size : Int) < at_ := by omega
    have h3 : decide (at_ < 0) = false := decide_eq_false h1
    have h4 : decide ((s.size : Int) < at_) = false := decide_eq_false h2
    clear hout h1 h2
    go_enter Try.func8, Try.ntmps8
    go_wp2_with fail
    refine (examples_any _).mono ?_
    rintro e w1 ⟨rfl, b1⟩
    go_wp2_with fail
    refine (U32_any s at_ _ HS.out).mono ?_
    rintro e w2 ⟨rfl, rfl⟩
    go_wp2_with fail
    refine (S64_any s at_ _ HS.out).mono ?_
    rintro e w2 ⟨rfl, rfl⟩
    go_wp2_with fail
    refine (s32_end s _ HS.out).mono ?_
    rintro e w2 ⟨rfl, rfl⟩
    go_wp2_with fail
    go_ret
    exact ⟨rfl, b1⟩

theorem u32_at (S : ByteArray) (at_ : Int) (n : Nat) (pre more : List UInt8) (w : World) (hs : S.size ≤ maxLen) (hp : at_ = pre.length) (hS : S.data.toList = pre ++ (putU 10 n ++ more)) (hn : n < 2 ^ 32) :
    Calls Try.prog 18 #[.string S, .int .i64 at_] w fun e w' => e = .returned (.tuple #[.int .u32 n, .int .i64 (at_ + (putU 10 n).length), .int .i64 0]) ∧ w = w' := by
  refine (U32_any S at_ w hs).mono ?_
  rintro e w' ⟨rfl, rfl⟩
  rw [hS, ansU32_put n pre more at_ hp (by omega), if_pos hn]
  exact ⟨rfl, rfl⟩
theorem s32_at (S : ByteArray) (at_ : Int) (n : Int) (pre more : List UInt8) (w : World) (hs : S.size ≤ maxLen) (hp : at_ = pre.length) (hS : S.data.toList = pre ++ (putS 10 n ++ more)) (hn : -(2 ^ 31) ≤ n ∧ n < 2 ^ 31) :
    Calls Try.prog 19 #[.string S, .int .i64 at_] w fun e w' => e = .returned (.tuple #[.int .i32 n, .int .i64 (at_ + (putS 10 n).length), .int .i64 0]) ∧ w = w' := by
  refine (S32_any S at_ w hs).mono ?_
  rintro e w' ⟨rfl, rfl⟩
  rw [hS, ansS32_put n pre more at_ hp (by omega), if_pos hn]
  exact ⟨rfl, rfl⟩
theorem u64_at (S : ByteArray) (at_ : Int) (n : Nat) (pre more : List UInt8) (w : World) (hs : S.size ≤ maxLen) (hp : at_ = pre.length) (hS : S.data.toList = pre ++ (putU 10 n ++ more)) (hn : n < 2 ^ 64) :
    Calls Try.prog 16 #[.string S, .int .i64 at_] w fun e w' => e = .returned (.tuple #[.int .u64 n, .int .i64 (at_ + (putU 10 n).length), .int .i64 0]) ∧ w = w' := by
  refine (U64_any S at_ w hs).mono ?_
  rintro e w' ⟨rfl, rfl⟩
  rw [hS, ansU64_put n pre more at_ hp (by omega)]
  exact ⟨rfl, rfl⟩
theorem s64_at (S : ByteArray) (at_ : Int) (n : Int) (pre more : List UInt8) (w : World) (hs : S.size ≤ maxLen) (hp : at_ = pre.length) (hS : S.data.toList = pre ++ (putS 10 n ++ more)) (hn : -(2 ^ 63) ≤ n ∧ n < 2 ^ 63) :
    Calls Try.prog 17 #[.string S, .int .i64 at_] w fun e w' => e = .returned (.tuple #[.int .i64 n, .int .i64 (at_ + (putS 10 n).length), .int .i64 0]) ∧ w = w' := by
  refine (S64_any S at_ w hs).mono ?_
  rintro e w' ⟨rfl, rfl⟩
  rw [hS, ansS64_put n pre more at_ hp (by omega)]
  exact ⟨rfl, rfl⟩
end Go.Proofs.Ytckigiemeimheaa.Leb
