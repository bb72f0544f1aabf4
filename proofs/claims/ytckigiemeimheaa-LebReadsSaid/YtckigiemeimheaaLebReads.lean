/-
  The walk of LebReads: it answers true. No condition beyond what the theorem names.
-/
import Derived.Test.YtckigiemeimheaaLebEx
import Derived.Test.YtckigiemeimheaaLebRefC
namespace Go.Proofs.Ytckigiemeimheaa.Leb
open Go.RowKit
set_option linter.unusedVariables false

theorem w0 : wrap64 0 = 0 := by unfold wrap64; omega
theorem w1 : wrap64 1 = 1 := by unfold wrap64; omega
theorem w2 : wrap64 2 = 2 := by unfold wrap64; omega
theorem ansU_err (bits : Nat) (l : List UInt8) (at_ : Int) : wrap64 (ansU bits l at_).2.2 = (ansU bits l at_).2.2 := by
  unfold ansU
  split
  · exact w1
  · split
    · exact w2
    · exact w0
theorem ansS_err (bits : Nat) (l : List UInt8) (at_ : Int) : wrap64 (ansS bits l at_).2.2 = (ansS bits l at_).2.2 := by
  unfold ansS
  split
  · exact w1
  · split
    · exact w2
    · exact w0

set_option maxRecDepth 100000 in
set_option maxHeartbeats 1000000 in
theorem reads_walk (s : ByteArray) (at_ : Int) (w : World) (hs : s.size ≤ maxLen) :
    Calls Try.prog 9 #[.string s, .int .i64 at_] w fun e w' => e = .returned (.bool true) ∧ Below w.heap.size w w' := by
  have HS := Lib.hid hs
  clear hs
  have e1 := ansU_err 32 s.data.toList at_
  have e2 := ansS_err 32 s.data.toList at_
  have e3 := ansU_err 64 s.data.toList at_
  have e4 := ansS_err 64 s.data.toList at_
  go_enter Try.func9, Try.ntmps9
  go_wp2_with fail
  refine (examples_any _).mono ?_
  rintro e w1 ⟨rfl, b1⟩
  go_wp2_with fail
  refine (U32_any s at_ _ HS.out).mono ?_
  rintro e w2 ⟨rfl, rfl⟩
  go_wp2_with fail
  refine (refU32_any s at_ _ HS.out).mono ?_
  rintro e w2 ⟨rfl, rfl⟩
  go_wp2_with fail
  refine (S32_any s at_ _ HS.out).mono ?_
  rintro e w2 ⟨rfl, rfl⟩
  go_wp2_with fail
  refine (refS32_any s at_ _ HS.out).mono ?_
  rintro e w2 ⟨rfl, rfl⟩
  go_wp2_with fail
  refine (U64_any s at_ _ HS.out).mono ?_
  rintro e w2 ⟨rfl, rfl⟩
  go_wp2_with fail
  refine (refU64_any s at_ _ HS.out).mono ?_
  rintro e w2 ⟨rfl, rfl⟩
  go_wp2_with fail
  refine (S64_any s at_ _ HS.out).mono ?_
  rintro e w2 ⟨rfl, rfl⟩
  go_wp2_with fail
  refine (refS64_any s at_ _ HS.out).mono ?_
  rintro e w2 ⟨rfl, rfl⟩
  go_wp2_with fail
  go_ret
  exact ⟨rfl, b1⟩
end Go.Proofs.Ytckigiemeimheaa.Leb
