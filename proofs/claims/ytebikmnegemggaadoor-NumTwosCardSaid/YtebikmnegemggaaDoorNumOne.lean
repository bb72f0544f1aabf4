/-
  The map of closures that num.ones makes; what num.One does with it. No condition beyond what each theorem names.
-/
import Derived.Test.YtebikmnegemggaaDoorNumA
import Derived.Maps.Own
import Derived.Maps.OwnSet
namespace Go.Proofs.YtebikmnegemggaaDoor.Num
open Go.RowKit Go.Maps
set_option linter.unusedVariables false

/-- a map's elements, just as they are -/
def asIs (v : Value) : Option (DataW Value × List MemPlace) := some (.held v, [])
theorem keyed_int : Keyed Tryd.prog 3 := int_keyed Tryd.underlying3
theorem key_int (a : Int) (h : (Lit.int .i64 a).wf = true) : keyOf Tryd.prog 3 (.int .i64 a) = some (.int .i64 a) := keyOf_int_mk Tryd.underlying3 h

/-- the map that ones makes -/
def onesD : DataW Value :=
  (DataW.put (DataW.put (DataW.put (DataW.put (DataW.put (DataW.put (DataW.put (DataW.put (DataW.put (DataW.put (DataW.put (.map []) (.int .i64 69) (.held (.func (.func 35) #[] #[]))) (.int .i64 80) (.held (.func (.func 36) #[] #[]))) (.int .i64 103) (.held (.func (.func 37) #[] #[]))) (.int .i64 104) (.held (.func (.func 39) #[] #[]))) (.int .i64 105) (.held (.func (.func 41) #[] #[]))) (.int .i64 121) (.held (.func (.func 43) #[] #[]))) (.int .i64 122) (.held (.func (.func 45) #[] #[]))) (.int .i64 123) (.held (.func (.func 47) #[] #[]))) (.int .i64 167) (.held (.func (.func 49) #[] #[]))) (.int .i64 172) (.held (.func (.func 50) #[] #[]))) (.int .i64 173) (.held (.func (.func 51) #[] #[])))

/-- a call that answers a map of its own that reads as D -/
def MadeMap (w : World) (D : DataW Value) (e : Ending) (w' : World) : Prop :=
  ∃ b n, e = .returned (.map (some b)) ∧ w'.ownsMap Tryd.prog 3 asIs b n D ∧ Below w.heap.size w w' ∧ w.heap.size ≤ b

set_option maxRecDepth 100000 in
set_option maxHeartbeats 1000000 in
theorem ones_any (w : World) : Calls Tryd.prog 19 #[] w (MadeMap w onesD) := by
  have hmm := @run_makeMap Tryd.prog
  have h0 := World.ownsMap_made w Tryd.prog 3 asIs
  have b0 : Below w.heap.size w (w.alloc (.map #[] 0)) := (Below.refl _ _).alloc (Nat.le_refl _) _
  go_enter Tryd.func19, Tryd.ntmps19
  go_wp2_with fail
  obtain ⟨w1, hrun, h1, g1⟩ := h0.update (val := .func (.func 35) #[] #[]) keyed_int Tryd.underlying43 (by decide) (key_int 69 (by decide)) rfl
  have b1 := b0.grown g1 (by have := b0.size; omega) (fun k hk => by cases hk; exact Nat.le_refl _)
  clear h0 g1 b0
  rw [hrun]
  clear hrun
  go_wp2_with fail
  obtain ⟨w2, hrun, h2, g2⟩ := h1.update (val := .func (.func 36) #[] #[]) keyed_int Tryd.underlying43 (by decide) (key_int 80 (by decide)) rfl
  have b2 := b1.grown g2 (by have := b1.size; omega) (fun k hk => by cases hk; exact Nat.le_refl _)
  clear h1 g2 b1
  rw [hrun]
  clear hrun
  go_wp2_with fail
  obtain ⟨w3, hrun, h3, g3⟩ := h2.update (val := .func (.func 37) #[] #[]) keyed_int Tryd.underlying43 (by decide) (key_int 103 (by decide)) rfl
  have b3 := b2.grown g3 (by have := b2.size; omega) (fun k hk => by cases hk; exact Nat.le_refl _)
  clear h2 g3 b2
  rw [hrun]
  clear hrun
  go_wp2_with fail
  obtain ⟨w4, hrun, h4, g4⟩ := h3.update (val := .func (.func 39) #[] #[]) keyed_int Tryd.underlying43 (by decide) (key_int 104 (by decide)) rfl
  have b4 := b3.grown g4 (by have := b3.size; omega) (fun k hk => by cases hk; exact Nat.le_refl _)
  clear h3 g4 b3
  rw [hrun]
  clear hrun
  go_wp2_with fail
  obtain ⟨w5, hrun, h5, g5⟩ := h4.update (val := .func (.func 41) #[] #[]) keyed_int Tryd.underlying43 (by decide) (key_int 105 (by decide)) rfl
  have b5 := b4.grown g5 (by have := b4.size; omega) (fun k hk => by cases hk; exact Nat.le_refl _)
  clear h4 g5 b4
  rw [hrun]
  clear hrun
  go_wp2_with fail
  obtain ⟨w6, hrun, h6, g6⟩ := h5.update (val := .func (.func 43) #[] #[]) keyed_int Tryd.underlying43 (by decide) (key_int 121 (by decide)) rfl
  have b6 := b5.grown g6 (by have := b5.size; omega) (fun k hk => by cases hk; exact Nat.le_refl _)
  clear h5 g6 b5
  rw [hrun]
  clear hrun
  go_wp2_with fail
  obtain ⟨w7, hrun, h7, g7⟩ := h6.update (val := .func (.func 45) #[] #[]) keyed_int Tryd.underlying43 (by decide) (key_int 122 (by decide)) rfl
  have b7 := b6.grown g7 (by have := b6.size; omega) (fun k hk => by cases hk; exact Nat.le_refl _)
  clear h6 g7 b6
  rw [hrun]
  clear hrun
  go_wp2_with fail
  obtain ⟨w8, hrun, h8, g8⟩ := h7.update (val := .func (.func 47) #[] #[]) keyed_int Tryd.underlying43 (by decide) (key_int 123 (by decide)) rfl
  have b8 := b7.grown g8 (by have := b7.size; omega) (fun k hk => by cases hk; exact Nat.le_refl _)
  clear h7 g8 b7
  rw [hrun]
  clear hrun
  go_wp2_with fail
  obtain ⟨w9, hrun, h9, g9⟩ := h8.update (val := .func (.func 49) #[] #[]) keyed_int Tryd.underlying43 (by decide) (key_int 167 (by decide)) rfl
  have b9 := b8.grown g9 (by have := b8.size; omega) (fun k hk => by cases hk; exact Nat.le_refl _)
  clear h8 g9 b8
  rw [hrun]
  clear hrun
  go_wp2_with fail
  obtain ⟨w10, hrun, h10, g10⟩ := h9.update (val := .func (.func 50) #[] #[]) keyed_int Tryd.underlying43 (by decide) (key_int 172 (by decide)) rfl
  have b10 := b9.grown g10 (by have := b9.size; omega) (fun k hk => by cases hk; exact Nat.le_refl _)
  clear h9 g10 b9
  rw [hrun]
  clear hrun
  go_wp2_with fail
  obtain ⟨w11, hrun, h11, g11⟩ := h10.update (val := .func (.func 51) #[] #[]) keyed_int Tryd.underlying43 (by decide) (key_int 173 (by decide)) rfl
  have b11 := b10.grown g11 (by have := b10.size; omega) (fun k hk => by cases hk; exact Nat.le_refl _)
  clear h10 g11 b10
  rw [hrun]
  clear hrun
  go_wp2_with fail
  go_ret
  exact ⟨_, _, rfl, h11, b11, Nat.le_refl _⟩

theorem zero_fn (w : World) : (zeroValue 45).run Tryd.prog w = .ok .nilFunc w := by kernel_rfl

set_option maxRecDepth 100000 in
set_option maxHeartbeats 1000000 in
theorem one_none (op : Int) (a : Int) (w : World) (hop : (Lit.int .i64 op).wf = true) (h : Maps.has onesD (.int .i64 op) = false) :
    Calls Tryd.prog 14 #[.int .i64 op, .int .u64 a] w fun e w' => e = .returned (.tuple #[.int .u64 0, .int .i64 3]) ∧ Below w.heap.size w w' := by
  have H := Lib.hid h
  have HO := Lib.hid hop
  clear h hop
  go_enter Tryd.func14, Tryd.ntmps14
  go_wp2_with fail
  refine (ones_any _).mono ?_
  rintro e w1 ⟨b, n, rfl, hown, hb, hle⟩
  obtain ⟨v, ps, hrun, hv⟩ := hown.look_ok keyed_int Tryd.underlying43 (zero_fn w1) (show asIs .nilFunc = some (.held .nilFunc, []) from rfl) (key_int op HO.out)
  rw [H.out] at hrun
  clear hown hv
  go_wp2_with fail
  go_ret2
  exact ⟨rfl, hb⟩
end Go.Proofs.YtebikmnegemggaaDoor.Num
