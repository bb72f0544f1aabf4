/-
  The law of order: the closure that fits a value to the type. No condition beyond what each theorem names.
-/
import Derived.Test.YtafnjkeljjeamaaDoorValLawsPl
import Derived.Test.YtafnjkeljjeamaaDoorValWk2
import Derived.Test.YtafnjkeljjeamaaDoorValN
namespace Go.Proofs.YtafnjkeljjeamaaDoor.Val
open Go.RowKit Go.Maps Go.Lib
set_option linter.unusedVariables false
set_option linter.unusedSimpArgs false
def fitV (t xn : Bool) (x : Int) (xs : ByteArray) : Va := if xn then nullVa else if t then ⟨false, 0, xs.extract 0 (min (xs.size : Int) 200).toNat⟩ else numVa x
set_option maxRecDepth 100000 in
set_option maxHeartbeats 2000000 in
theorem fit_any (t xn : Bool) (x : Int) (xs : ByteArray) (B : Nat) (w : World) (hB : w.cell? ⟨B, 0, none⟩ = some (.bool t)) : Calls Tryd.prog 26 #[.agg #[.bool xn, .int .i64 x, .string xs], .pointer (some ⟨B, 0, none⟩)] w (VaS w (fitV t xn x xs)) := by
  have hlt : B < w.heap.size := World.block_lt_of_cell? _ _ hB
  cases xn
  · cases t
    · go_enter Tryd.func26, Tryd.ntmps26
      go_wp2_with fail
      refine bodyPost_ret (v := .agg #[.bool false, .int .i64 x, .string ⟨#[]⟩]) (by simp [results, Tryd.results26, go_sem]) rfl ?_
      exact ⟨rfl, below2 _ _ _⟩
    · go_enter Tryd.func26, Tryd.ntmps26
      go_wp2_with fail
      refine bodyPost_ret (v := .agg #[.bool false, .int .i64 0, .string (xs.extract 0 (min (xs.size : Int) 200).toNat)]) (by simp [results, Tryd.results26, go_sem]) rfl ?_
      exact ⟨rfl, below2 _ _ _⟩
  · go_enter Tryd.func26, Tryd.ntmps26
    go_wp2_with fail
    refine bodyPost_ret (v := .agg #[.bool true, .int .i64 0, .string ⟨#[]⟩]) (by simp [results, Tryd.results26, go_sem]) rfl ?_
    exact ⟨rfl, below2 _ _ _⟩
end Go.Proofs.YtafnjkeljjeamaaDoor.Val
