/-
  The walk of LebWrites: it answers true. No condition beyond what the theorem names.
-/
import Derived.Test.YtckigiemeimheaaLebEx
import Derived.Test.YtckigiemeimheaaLebRefA
namespace Go.Proofs.Ytckigiemeimheaa.Leb
open Go.RowKit
set_option linter.unusedVariables false

set_option maxRecDepth 100000 in
set_option maxHeartbeats 400000 in
theorem writes_walk (n : Nat) (m : Int) (w : World) (hn : n < 2 ^ 64) (hm : -(2 ^ 63) ≤ m ∧ m < 2 ^ 63) :
    Calls Try.prog 3 #[.int .u64 n, .int .i64 m] w fun e w' => e = .returned (.bool true) ∧ Below w.heap.size w w' := by
  have HN := Lib.hid hn
  have HM := Lib.hid hm
  clear hn hm
  go_enter Try.func3, Try.ntmps3
  go_wp2_with fail
  refine (examples_any _).mono ?_
  rintro e w1 ⟨rfl, b1⟩
  go_wp2_with fail
  refine (putU_any n _ HN.out).mono ?_
  rintro e w2 ⟨rfl, b2⟩
  go_wp2_with fail
  refine (refPutU_any n _ HN.out).mono ?_
  rintro e w3 ⟨rfl, b3⟩
  go_wp2_with fail
  refine (putS_any m _ HM.out).mono ?_
  rintro e w4 ⟨rfl, b4⟩
  go_wp2_with fail
  refine (refPutS_any m _ HM.out).mono ?_
  rintro e w5 ⟨rfl, b5⟩
  go_wp2_with fail
  go_ret
  exact ⟨rfl, (((b1.trans (b2.mono b1.size)).trans (b3.mono (Nat.le_trans b1.size b2.size))).trans (b4.mono (Nat.le_trans (Nat.le_trans b1.size b2.size) b3.size))).trans (b5.mono (Nat.le_trans (Nat.le_trans (Nat.le_trans b1.size b2.size) b3.size) b4.size))⟩
end Go.Proofs.Ytckigiemeimheaa.Leb
