/-
  number(scale): Int or Dec of a scale below 10. No condition beyond what each theorem names.
-/
import Derived.Test.YtafnjkeljjeamaaDoorValEx
namespace Go.Proofs.YtafnjkeljjeamaaDoor.Val
open Go.RowKit Go.Maps Go.Lib
set_option linter.unusedVariables false
set_option linter.unusedSimpArgs false
set_option maxRecDepth 100000 in
set_option maxHeartbeats 2000000 in
theorem number_any (s : UInt8) (w : World) : Calls Tryd.prog 19 #[.int .u8 (s.toNat : Int)] w (fun e w' => e = .returned (.agg #[.int .i64 (typed ((s.toNat % 10 : Nat) : Int)).kind, .int .i64 (typed ((s.toNat % 10 : Nat) : Int)).scale]) ∧ Below w.heap.size w w') := by
  go_enter Tryd.func19, Tryd.ntmps19
  go_wp2_with fail
  · rename_i h
    have h2 : ((s.toNat % 10 : Nat) : Int) = 0 := by
      rw [Int.natCast_emod]
      exact eq_of_beq h
    refine bodyPost_ret (v := .agg #[.int .i64 1, .int .i64 0]) (by simp [results, Tryd.results19, go_sem]) rfl ?_
    unfold typed
    rw [if_pos h2]
    exact ⟨by simp, below1 _ _⟩
  · rename_i h
    have h2 : ¬ ((s.toNat % 10 : Nat) : Int) = 0 := by
      rw [Int.natCast_emod]
      exact ne_of_beq_false h
    refine bodyPost_ret (v := .agg #[.int .i64 2, .int .i64 ((s.toNat : Int) % 10)]) (by simp [results, Tryd.results19, go_sem]) rfl ?_
    unfold typed
    rw [if_neg h2]
    exact ⟨by simp, below1 _ _⟩
end Go.Proofs.YtafnjkeljjeamaaDoor.Val
