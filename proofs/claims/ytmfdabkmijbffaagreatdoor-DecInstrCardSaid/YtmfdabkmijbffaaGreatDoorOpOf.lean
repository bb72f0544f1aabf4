/-
  What package op's Of, word, Float answer. No condition beyond what each theorem names.
-/
import Derived.Test.YtmfdabkmijbffaaGreatDoorOpAll
import Derived.Test.YtmfdabkmijbffaaGreatDoorOpTable
import Derived.Deep.QuietTactic
import Derived.BigQuiet
namespace Go.Proofs.YtmfdabkmijbffaaGreatDoor.Op
open Go.RowKit Go.Maps
set_option linter.unusedVariables false
theorem zero_info (w : World) : (zeroValue 98).run Tryz.prog w = .ok zeroI.toV w := by kernel_rfl
theorem held_inj {a b : Value} (h : (DataW.held a : DataW Value) = .held b) : a = b := by injection h
set_option maxRecDepth 100000 in
set_option maxHeartbeats 1000000 in
theorem of_any (code : Int) (w : World) (hE : OpEnv w) (hc : (Lit.int .i64 code).wf = true) (i : Info) (b : Bool) (hi : (opInfo code).getD zeroI = i) (hb : (opInfo code).isSome = b) :
    Calls Tryz.prog 34 #[.int .i64 code] w fun e w' => e = .returned (.tuple #[i.toV, .bool b]) ∧ Below w.heap.size w w' := by
  have HE := Lib.hid hE
  have HC := Lib.hid hc
  have HI := Lib.hid hi
  have HB := Lib.hid hb
  clear hE hc hi hb
  have B0 : Below w.heap.size w (w.alloc (.cells #[.string ⟨#[]⟩, .int .i64 0, .string ⟨#[]⟩, .string ⟨#[]⟩] 98)) := (Below.refl _ _).alloc (Nat.le_refl _) _
  go_enter Tryz.func34, Tryz.ntmps34
  go_wp2_with fail
  refine (all_any _ (opEnv_later HE.out B0)).mono ?_
  rintro e w1 ⟨mb, n, rfl, hown, c1, hle⟩
  have B1 := B0.trans (c1.mono B0.size)
  have s0 : w.heap.size < w1.heap.size := by have := c1.size; simp at this; omega
  have r0 : w1.cell? ⟨w.heap.size, 0, none⟩ = some (.string ⟨#[]⟩) := cell_later c1 (by simp)
  have r1 : w1.cell? ⟨w.heap.size, 1, none⟩ = some (.int .i64 0) := cell_later c1 (by simp)
  have r2 : w1.cell? ⟨w.heap.size, 2, none⟩ = some (.string ⟨#[]⟩) := cell_later c1 (by simp)
  have r3 : w1.cell? ⟨w.heap.size, 3, none⟩ = some (.string ⟨#[]⟩) := cell_later c1 (by simp)
  have f0 : ∀ j, w1.frozen? ⟨w.heap.size, j, none⟩ = false := fun j => by rw [c1.frozen (p := ⟨w.heap.size, j, none⟩) (by simp)]; simp
  obtain ⟨v, ps, hrun, hv⟩ := hown.look_ok keyed_int Tryz.underlying93 (zero_info w1) (show asIs zeroI.toV = some (.held zeroI.toV, []) from rfl) (key_int code HC.out)
  have hv2 := held_inj ((congrArg Prod.fst (Option.some.inj hv)).trans (atKey_eq code))
  rw [HI.out] at hv2
  subst hv2
  rw [has_eq, HB.out] at hrun
  clear hown hv B0
  obtain ⟨nm, sh, p, r⟩ := i
  change (Instr.lookup _ _ _ _).run _ _ = .ok (.tuple #[.agg #[.string nm, .int .i64 sh, .string p, .string r], .bool b]) w1 at hrun
  go_wp2_with fail
  refine bodyPost_ret (v := .tuple #[.agg #[.string nm, .int .i64 sh, .string p, .string r], .bool b]) (by simp [results, Tryz.results34, go_sem, s0, r0, r1, r2, r3]) rfl ⟨rfl, ?_⟩
  exact ((((B1.setCell (Nat.le_refl _) _).setCell (Nat.le_refl _) _).setCell (Nat.le_refl _) _).setCell (Nat.le_refl _) _).alloc (by simp; omega) _
end Go.Proofs.YtmfdabkmijbffaaGreatDoor.Op
