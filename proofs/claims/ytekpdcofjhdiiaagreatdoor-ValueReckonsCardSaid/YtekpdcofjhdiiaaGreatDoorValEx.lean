/-
  The chapter's examples. No condition beyond what each theorem names.
-/
import Derived.Test.YtekpdcofjhdiiaaGreatDoorValU
import Derived.Test.YtekpdcofjhdiiaaGreatDoorValK
namespace Go.Proofs.YtekpdcofjhdiiaaGreatDoor.Val
open Go.RowKit Go.Maps Go.Lib
set_option linter.unusedVariables false
set_option linter.unusedSimpArgs false
theorem ex_arith : arithP 43 (numVa 1) (numVa 150) ⟨1, 0⟩ ⟨2, 2⟩ = (numVa 250, 0) := by rfl
theorem decDigits_five : decDigits 5 = [53] := by rw [decDigits, dif_pos (by decide)]; rfl
theorem ex_text : textP (numVa (-5)) ⟨2, 2⟩ = some [45, 48, 46, 48, 53] := by
  show some (decT (-5) 2) = _
  unfold decT digitsL
  rw [show (-5 : Int).natAbs = 5 from rfl, decDigits_five]
  rfl
set_option maxRecDepth 100000 in
set_option maxHeartbeats 2000000 in
theorem examples10 (w : World) (hE : VEnv w) : Calls Tryz.prog 4 #[] w (BoolS w true) := by
  have HE := Lib.hid hE
  have HA := Lib.hid (show ∀ W, Calls Tryz.prog 5 #[.int .u8 43, .agg #[.bool false, .int .i64 1, .string ⟨#[]⟩], .agg #[.bool false, .int .i64 150, .string ⟨#[]⟩], .agg #[.int .i64 1, .int .i64 0], .agg #[.int .i64 2, .int .i64 2]] W (fun e w' => e = .returned (.tuple #[.agg #[.bool false, .int .i64 250, .string ⟨#[]⟩], .int .i64 0]) ∧ Below W.heap.size W w') from fun W => arith_any 43 (numVa 1) (numVa 150) ⟨1, 0⟩ ⟨2, 2⟩ (by unfold I64; decide) (by unfold I64; decide) W _ _ ex_arith)
  have HT := Lib.hid (show ∀ W, VEnv W → Calls Tryz.prog 9 #[.agg #[.bool false, .int .i64 (-5), .string ⟨#[]⟩], .agg #[.int .i64 2, .int .i64 2]] W (fun e w' => e = .returned (.tuple #[.string ⟨#[45, 48, 46, 48, 53]⟩, .bool true]) ∧ Below W.heap.size W w') from fun W h => text_any (numVa (-5)) ⟨2, 2⟩ (by unfold I64; decide) W h _ ex_text)
  have HD := Lib.hid (show ∀ W, Calls Tryz.prog 15 #[.agg #[.bool true, .int .i64 0, .string ⟨#[]⟩], .agg #[.bool false, .int .i64 0, .string ⟨#[]⟩]] W (fun e w' => e = .returned (.agg #[.bool false, .int .i64 0, .string ⟨#[]⟩]) ∧ Below W.heap.size W w') from fun W => land_any nullVa noVa W noVa (by rfl))
  clear hE
  go_enter Tryz.func4, Tryz.ntmps4
  go_wp2_with fail
  refine (scale_any 5 0 2 (by unfold I64; decide) _ 500 0 (by rfl)).mono ?_
  rintro e w1 ⟨rfl, c1⟩
  have C1 := Lib.hid ((below1 w (.cells #[.int .i64 2, .int .i64 2] 25)).trans (c1.mono (by simp)))
  have q0 : w1.cell? ⟨w.heap.size, 0, none⟩ = some (.int .i64 2) := cell_later c1 (by simp)
  have q1 : w1.cell? ⟨w.heap.size, 1, none⟩ = some (.int .i64 2) := cell_later c1 (by simp)
  clear c1
  go_wp2_with fail
  refine (HA.out _).mono ?_
  rintro e w2 ⟨rfl, c2⟩
  have C2 := Lib.hid ((C1.out.trans (c2.mono C1.out.size)).alloc (Nat.le_trans C1.out.size c2.size) (.cells #[.bool false, .int .i64 250, .string ⟨#[]⟩] 23))
  have u0 := cell_later c2 q0
  have u1 := cell_later c2 q1
  clear c2 q0 q1
  have hlt : w.heap.size < w2.heap.size := World.block_lt_of_cell? _ _ u0
  go_wp2_with fail
  refine (HT.out _ (HE.out.later C2.out)).mono ?_
  rintro e w3 ⟨rfl, c3⟩
  have C3 := Lib.hid (C2.out.trans (c3.mono C2.out.size))
  have v1 : w3.cell? ⟨w2.heap.size, 1, none⟩ = some (.int .i64 250) := cell_later c3 (by simp)
  clear c3 u0 u1
  go_wp2_with fail
  refine (HD.out _).mono ?_
  rintro e w4 ⟨rfl, c4⟩
  have C4 := Lib.hid (C3.out.trans (c4.mono C3.out.size))
  clear c4
  go_wp2_with fail
  go_ret
  exact ⟨rfl, C4.out⟩
end Go.Proofs.YtekpdcofjhdiiaaGreatDoor.Val
