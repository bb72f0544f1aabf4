/-
  The chapter's examples hold: what 'examples' of the statements of chapter 1 answers. No condition.
-/
import Derived.Test.YtckigiemeimheaaProg
import Derived.Test.YtckigiemeimheaaLebTake
import Derived.Test.YtckigiemeimheaaLebPut
import Derived.Test.YtckigiemeimheaaLebLaws
import Derived.WalkKit
import Derived.WalkSpells
import Derived.WalkLawsBesides
import Derived.Lib.Hide
namespace Go.Proofs.Ytckigiemeimheaa.Leb
open Go.RowKit
set_option linter.unusedVariables false

theorem ex_u (w : World) : Calls Try.prog 18 #[.string ⟨#[229, 142, 38]⟩, .int .i64 0] w fun e w' => e = .returned (.tuple #[.int .u32 624485, .int .i64 3, .int .i64 0]) ∧ w = w' :=
  (U32_any ⟨#[229, 142, 38]⟩ 0 w (by decide)).mono fun e w' h => h
theorem ex_s (w : World) : Calls Try.prog 17 #[.string ⟨#[192, 187, 120]⟩, .int .i64 0] w fun e w' => e = .returned (.tuple #[.int .i64 (-123456), .int .i64 3, .int .i64 0]) ∧ w = w' :=
  (S64_any ⟨#[192, 187, 120]⟩ 0 w (by decide)).mono fun e w' h => h
theorem ex_f (w : World) : Calls Try.prog 18 #[.string ⟨#[128]⟩, .int .i64 0] w fun e w' => e = .returned (.tuple #[.int .u32 0, .int .i64 0, .int .i64 2]) ∧ w = w' :=
  (U32_any ⟨#[128]⟩ 0 w (by decide)).mono fun e w' h => h
theorem ex_pu (w : World) : Calls Try.prog 12 #[.int .u64 624485] w fun e w' => e = .returned (.string ⟨#[229, 142, 38]⟩) ∧ Below w.heap.size w w' :=
  (putU_any 624485 w (by decide)).mono fun e w' h => h
theorem ex_ps (w : World) : Calls Try.prog 14 #[.int .i64 (-123456)] w fun e w' => e = .returned (.string ⟨#[192, 187, 120]⟩) ∧ Below w.heap.size w w' :=
  (putS_any (-123456) w (by decide)).mono fun e w' h => h

set_option maxRecDepth 100000 in
set_option maxHeartbeats 400000 in
theorem examples_any (w : World) :
    Calls Try.prog 11 #[] w fun e w' => e = .returned (.bool true) ∧ Below w.heap.size w w' := by
  go_enter Try.func11, Try.ntmps11
  go_wp2_with fail
  refine (ex_u _).mono ?_
  rintro e w1 ⟨rfl, rfl⟩
  go_wp2_with fail
  refine (ex_s _).mono ?_
  rintro e w1 ⟨rfl, rfl⟩
  go_wp2_with fail
  refine (ex_f _).mono ?_
  rintro e w1 ⟨rfl, rfl⟩
  go_wp2_with fail
  refine (ex_pu _).mono ?_
  rintro e w1 ⟨rfl, b1⟩
  go_wp2_with fail
  refine (ex_ps _).mono ?_
  rintro e w2 ⟨rfl, b2⟩
  go_wp2_with fail
  go_ret
  exact ⟨rfl, b1.trans (b2.mono b1.size)⟩
end Go.Proofs.Ytckigiemeimheaa.Leb
