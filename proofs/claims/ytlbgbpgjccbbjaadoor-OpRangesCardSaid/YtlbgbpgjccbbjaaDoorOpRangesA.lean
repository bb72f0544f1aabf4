/-
  The walk of OpRanges: it answers true. No condition beyond what the theorem names.
-/
import Derived.Test.YtlbgbpgjccbbjaaDoorOpEx
import Derived.Test.YtlbgbpgjccbbjaaDoorOpRangesW
import Derived.Test.YtlbgbpgjccbbjaaDoorWf
namespace Go.Proofs.YtlbgbpgjccbbjaaDoor.Op
open Go.RowKit Go.Maps
set_option linter.unusedVariables false
set_option maxRecDepth 100000 in
set_option maxHeartbeats 2000000 in
theorem ranges_none (a : Nat) (n : Int) (w : World) (hE : OpEnv w) (ha : a < 256) (hi : opInfo (a : Int) = none) :
    Calls Tryd.prog 7 #[.int .u8 a, .int .i64 n] w fun e w' => e = .returned (.bool true) ∧ Below w.heap.size w w' := by
  have HE := Lib.hid hE
  have HI := Lib.hid hi
  have HW := Lib.hid (wf8 a ha)
  have HR := Lib.hid (show rightB a 0 0 [] = false by unfold rightB; rw [hi])
  clear hE hi
  go_enter Tryd.func7, Tryd.ntmps7
  go_wp2_with fail
  refine (examples_any _ HE.out).mono ?_
  rintro e w0 ⟨rfl, b0⟩
  go_wp2_with fail
  refine (of_lit a _ (opEnv_later HE.out b0) HW.out ⟨#[]⟩ ⟨#[]⟩ ⟨#[]⟩ 0 false (by rw [HI.out]; rfl) (by rw [HI.out]; rfl)).mono ?_
  rintro e w1 ⟨rfl, c1⟩
  have b1 := b0.trans (c1.mono b0.size)
  have B1 := b1.alloc b1.size (.cells #[.string ⟨#[]⟩, .int .i64 0, .string ⟨#[]⟩, .string ⟨#[]⟩] 24)
  go_wp2_with fail
  refine (right_v a 0 0 none 0 _ (opEnv_later HE.out B1) HW.out false HR.out).mono ?_
  rintro e w2 ⟨rfl, c2⟩
  go_wp2_with fail
  go_ret
  exact ⟨rfl, B1.trans (c2.mono B1.size)⟩

set_option maxRecDepth 100000 in
set_option maxHeartbeats 2000000 in
theorem ranges_0_neg (a : Nat) (nm p r : ByteArray) (n : Int) (h : n < 0) (w : World) (hE : OpEnv w) (ha : a < 256) (hi : opInfo (a : Int) = some ⟨nm, 0, p, r⟩) :
    Calls Tryd.prog 7 #[.int .u8 a, .int .i64 n] w fun e w' => e = .returned (.bool true) ∧ Below w.heap.size w w' := by
  have HE := Lib.hid hE
  have HI := Lib.hid hi
  have HW := Lib.hid (wf8 a ha)
  have H1 := Lib.hid (show rightB a n 0 [] = false from (by rw [right_tail hi _ _ (.inl rfl), tail_0]; first | decide | exact beq_eq_false_iff_ne.2 (by omega)))
  have H2 := Lib.hid (show rightB a 64 n [] = false from right_bad hi 64 n [] (by omega) (by decide))
  have d0 : decide (0 ≤ n) = false := decide_eq_false (by omega)
  have d1 : decide (n < 4294967296) = true := decide_eq_true (by omega)
  have d2 : (n == 0) = false := beq_eq_false_iff_ne.2 (by omega)
  clear h
  clear hE hi
  go_enter Tryd.func7, Tryd.ntmps7
  go_wp2_with fail
  refine (examples_any _ HE.out).mono ?_
  rintro e w0 ⟨rfl, b0⟩
  go_wp2_with fail
  refine (of_lit a _ (opEnv_later HE.out b0) HW.out nm p r 0 true (by rw [HI.out]; rfl) (by rw [HI.out]; rfl)).mono ?_
  rintro e w1 ⟨rfl, c1⟩
  have b1 := b0.trans (c1.mono b0.size)
  have B1 := b1.alloc b1.size (.cells #[.string nm, .int .i64 0, .string p, .string r] 24)
  go_wp2_with fail
  refine (right_v a 64 n none 0 _ (opEnv_later HE.out B1) HW.out false H2.out).mono ?_
  rintro e w2 ⟨rfl, c2⟩
  have s1 : w1.heap.size < w2.heap.size := by have := c2.size; simp at this; omega
  have r1 : w2.cell? ⟨w1.heap.size, 1, none⟩ = some (.int .i64 0) := cell_later c2 (by simp)
  have B2 := B1.trans (c2.mono B1.size)
  go_wp2_with fail
  refine (right_v a n 0 none 0 _ (opEnv_later HE.out B2) HW.out false H1.out).mono ?_
  rintro e w3 ⟨rfl, c3⟩
  have r2 : w3.cell? ⟨w1.heap.size, 1, none⟩ = some (.int .i64 0) := cell_later c3 r1
  go_wp2_with fail
  go_ret
  exact ⟨rfl, B2.trans (c3.mono B2.size)⟩

set_option maxRecDepth 100000 in
set_option maxHeartbeats 2000000 in
theorem ranges_0_z (a : Nat) (nm p r : ByteArray) (w : World) (hE : OpEnv w) (ha : a < 256) (hi : opInfo (a : Int) = some ⟨nm, 0, p, r⟩) :
    Calls Tryd.prog 7 #[.int .u8 a, .int .i64 0] w fun e w' => e = .returned (.bool true) ∧ Below w.heap.size w w' := by
  have HE := Lib.hid hE
  have HI := Lib.hid hi
  have HW := Lib.hid (wf8 a ha)
  have H1 := Lib.hid (show rightB a 0 0 [] = true from (by rw [right_tail hi _ _ (.inl rfl), tail_0]; first | decide | exact beq_eq_false_iff_ne.2 (by omega)))
  have H2 := Lib.hid (show rightB a 64 0 [] = false from (by rw [right_tail hi _ _ (.inl rfl), tail_0]; first | decide | exact beq_eq_false_iff_ne.2 (by omega)))
  clear hE hi
  go_enter Tryd.func7, Tryd.ntmps7
  go_wp2_with fail
  refine (examples_any _ HE.out).mono ?_
  rintro e w0 ⟨rfl, b0⟩
  go_wp2_with fail
  refine (of_lit a _ (opEnv_later HE.out b0) HW.out nm p r 0 true (by rw [HI.out]; rfl) (by rw [HI.out]; rfl)).mono ?_
  rintro e w1 ⟨rfl, c1⟩
  have b1 := b0.trans (c1.mono b0.size)
  have B1 := b1.alloc b1.size (.cells #[.string nm, .int .i64 0, .string p, .string r] 24)
  go_wp2_with fail
  refine (right_v a 64 0 none 0 _ (opEnv_later HE.out B1) HW.out false H2.out).mono ?_
  rintro e w2 ⟨rfl, c2⟩
  have s1 : w1.heap.size < w2.heap.size := by have := c2.size; simp at this; omega
  have r1 : w2.cell? ⟨w1.heap.size, 1, none⟩ = some (.int .i64 0) := cell_later c2 (by simp)
  have B2 := B1.trans (c2.mono B1.size)
  go_wp2_with fail
  refine (right_v a 0 0 none 0 _ (opEnv_later HE.out B2) HW.out true H1.out).mono ?_
  rintro e w3 ⟨rfl, c3⟩
  have r2 : w3.cell? ⟨w1.heap.size, 1, none⟩ = some (.int .i64 0) := cell_later c3 r1
  go_wp2_with fail
  go_ret
  exact ⟨rfl, B2.trans (c3.mono B2.size)⟩

set_option maxRecDepth 100000 in
set_option maxHeartbeats 2000000 in
theorem ranges_0_pos (a : Nat) (nm p r : ByteArray) (n : Int) (h : 0 < n ∧ n < 4294967296) (w : World) (hE : OpEnv w) (ha : a < 256) (hi : opInfo (a : Int) = some ⟨nm, 0, p, r⟩) :
    Calls Tryd.prog 7 #[.int .u8 a, .int .i64 n] w fun e w' => e = .returned (.bool true) ∧ Below w.heap.size w w' := by
  have HE := Lib.hid hE
  have HI := Lib.hid hi
  have HW := Lib.hid (wf8 a ha)
  have H1 := Lib.hid (show rightB a n 0 [] = false from (by rw [right_tail hi _ _ (.inl rfl), tail_0]; first | decide | exact beq_eq_false_iff_ne.2 (by omega)))
  have H2 := Lib.hid (show rightB a 64 n [] = false from right_bad hi 64 n [] (by omega) (by decide))
  have d0 : decide (0 ≤ n) = true := decide_eq_true (by omega)
  have d1 : decide (n < 4294967296) = true := decide_eq_true (by omega)
  have d2 : (n == 0) = false := beq_eq_false_iff_ne.2 (by omega)
  clear h
  clear hE hi
  go_enter Tryd.func7, Tryd.ntmps7
  go_wp2_with fail
  refine (examples_any _ HE.out).mono ?_
  rintro e w0 ⟨rfl, b0⟩
  go_wp2_with fail
  refine (of_lit a _ (opEnv_later HE.out b0) HW.out nm p r 0 true (by rw [HI.out]; rfl) (by rw [HI.out]; rfl)).mono ?_
  rintro e w1 ⟨rfl, c1⟩
  have b1 := b0.trans (c1.mono b0.size)
  have B1 := b1.alloc b1.size (.cells #[.string nm, .int .i64 0, .string p, .string r] 24)
  go_wp2_with fail
  refine (right_v a 64 n none 0 _ (opEnv_later HE.out B1) HW.out false H2.out).mono ?_
  rintro e w2 ⟨rfl, c2⟩
  have s1 : w1.heap.size < w2.heap.size := by have := c2.size; simp at this; omega
  have r1 : w2.cell? ⟨w1.heap.size, 1, none⟩ = some (.int .i64 0) := cell_later c2 (by simp)
  have B2 := B1.trans (c2.mono B1.size)
  go_wp2_with fail
  refine (right_v a n 0 none 0 _ (opEnv_later HE.out B2) HW.out false H1.out).mono ?_
  rintro e w3 ⟨rfl, c3⟩
  have r2 : w3.cell? ⟨w1.heap.size, 1, none⟩ = some (.int .i64 0) := cell_later c3 r1
  go_wp2_with fail
  go_ret
  exact ⟨rfl, B2.trans (c3.mono B2.size)⟩

set_option maxRecDepth 100000 in
set_option maxHeartbeats 2000000 in
theorem ranges_0_big (a : Nat) (nm p r : ByteArray) (n : Int) (h : 4294967296 ≤ n) (w : World) (hE : OpEnv w) (ha : a < 256) (hi : opInfo (a : Int) = some ⟨nm, 0, p, r⟩) :
    Calls Tryd.prog 7 #[.int .u8 a, .int .i64 n] w fun e w' => e = .returned (.bool true) ∧ Below w.heap.size w w' := by
  have HE := Lib.hid hE
  have HI := Lib.hid hi
  have HW := Lib.hid (wf8 a ha)
  have H1 := Lib.hid (show rightB a n 0 [] = false from (by rw [right_tail hi _ _ (.inl rfl), tail_0]; first | decide | exact beq_eq_false_iff_ne.2 (by omega)))
  have H2 := Lib.hid (show rightB a 64 n [] = false from right_bad hi 64 n [] (by omega) (by decide))
  have d0 : decide (0 ≤ n) = true := decide_eq_true (by omega)
  have d1 : decide (n < 4294967296) = false := decide_eq_false (by omega)
  have d2 : (n == 0) = false := beq_eq_false_iff_ne.2 (by omega)
  clear h
  clear hE hi
  go_enter Tryd.func7, Tryd.ntmps7
  go_wp2_with fail
  refine (examples_any _ HE.out).mono ?_
  rintro e w0 ⟨rfl, b0⟩
  go_wp2_with fail
  refine (of_lit a _ (opEnv_later HE.out b0) HW.out nm p r 0 true (by rw [HI.out]; rfl) (by rw [HI.out]; rfl)).mono ?_
  rintro e w1 ⟨rfl, c1⟩
  have b1 := b0.trans (c1.mono b0.size)
  have B1 := b1.alloc b1.size (.cells #[.string nm, .int .i64 0, .string p, .string r] 24)
  go_wp2_with fail
  refine (right_v a 64 n none 0 _ (opEnv_later HE.out B1) HW.out false H2.out).mono ?_
  rintro e w2 ⟨rfl, c2⟩
  have s1 : w1.heap.size < w2.heap.size := by have := c2.size; simp at this; omega
  have r1 : w2.cell? ⟨w1.heap.size, 1, none⟩ = some (.int .i64 0) := cell_later c2 (by simp)
  have B2 := B1.trans (c2.mono B1.size)
  go_wp2_with fail
  refine (right_v a n 0 none 0 _ (opEnv_later HE.out B2) HW.out false H1.out).mono ?_
  rintro e w3 ⟨rfl, c3⟩
  have r2 : w3.cell? ⟨w1.heap.size, 1, none⟩ = some (.int .i64 0) := cell_later c3 r1
  go_wp2_with fail
  go_ret
  exact ⟨rfl, B2.trans (c3.mono B2.size)⟩

set_option maxRecDepth 100000 in
set_option maxHeartbeats 2000000 in
theorem ranges_6_neg (a : Nat) (nm p r : ByteArray) (n : Int) (h : n < 0) (w : World) (hE : OpEnv w) (ha : a < 256) (hi : opInfo (a : Int) = some ⟨nm, 6, p, r⟩) :
    Calls Tryd.prog 7 #[.int .u8 a, .int .i64 n] w fun e w' => e = .returned (.bool true) ∧ Below w.heap.size w w' := by
  have HE := Lib.hid hE
  have HI := Lib.hid hi
  have HW := Lib.hid (wf8 a ha)
  have H1 := Lib.hid (show rightB a n 0 [] = false from (by rw [right_tail hi _ _ (.inl rfl), tail_6]; first | decide | exact beq_eq_false_iff_ne.2 (by omega)))
  have H2 := Lib.hid (show rightB a 64 n [] = false from right_bad hi 64 n [] (by omega) (by decide))
  have d0 : decide (0 ≤ n) = false := decide_eq_false (by omega)
  have d1 : decide (n < 4294967296) = true := decide_eq_true (by omega)
  have d2 : (n == 0) = false := beq_eq_false_iff_ne.2 (by omega)
  clear h
  clear hE hi
  go_enter Tryd.func7, Tryd.ntmps7
  go_wp2_with fail
  refine (examples_any _ HE.out).mono ?_
  rintro e w0 ⟨rfl, b0⟩
  go_wp2_with fail
  refine (of_lit a _ (opEnv_later HE.out b0) HW.out nm p r 6 true (by rw [HI.out]; rfl) (by rw [HI.out]; rfl)).mono ?_
  rintro e w1 ⟨rfl, c1⟩
  have b1 := b0.trans (c1.mono b0.size)
  have B1 := b1.alloc b1.size (.cells #[.string nm, .int .i64 6, .string p, .string r] 24)
  go_wp2_with fail
  refine (right_v a 64 n none 0 _ (opEnv_later HE.out B1) HW.out false H2.out).mono ?_
  rintro e w2 ⟨rfl, c2⟩
  have s1 : w1.heap.size < w2.heap.size := by have := c2.size; simp at this; omega
  have r1 : w2.cell? ⟨w1.heap.size, 1, none⟩ = some (.int .i64 6) := cell_later c2 (by simp)
  have B2 := B1.trans (c2.mono B1.size)
  go_wp2_with fail
  refine (right_v a n 0 none 0 _ (opEnv_later HE.out B2) HW.out false H1.out).mono ?_
  rintro e w3 ⟨rfl, c3⟩
  have r2 : w3.cell? ⟨w1.heap.size, 1, none⟩ = some (.int .i64 6) := cell_later c3 r1
  go_wp2_with fail
  go_ret
  exact ⟨rfl, B2.trans (c3.mono B2.size)⟩

set_option maxRecDepth 100000 in
set_option maxHeartbeats 2000000 in
theorem ranges_6_z (a : Nat) (nm p r : ByteArray) (w : World) (hE : OpEnv w) (ha : a < 256) (hi : opInfo (a : Int) = some ⟨nm, 6, p, r⟩) :
    Calls Tryd.prog 7 #[.int .u8 a, .int .i64 0] w fun e w' => e = .returned (.bool true) ∧ Below w.heap.size w w' := by
  have HE := Lib.hid hE
  have HI := Lib.hid hi
  have HW := Lib.hid (wf8 a ha)
  have H1 := Lib.hid (show rightB a 0 0 [] = true from (by rw [right_tail hi _ _ (.inl rfl), tail_6]; first | decide | exact beq_eq_false_iff_ne.2 (by omega)))
  have H2 := Lib.hid (show rightB a 64 0 [] = false from (by rw [right_tail hi _ _ (.inl rfl), tail_6]; first | decide | exact beq_eq_false_iff_ne.2 (by omega)))
  clear hE hi
  go_enter Tryd.func7, Tryd.ntmps7
  go_wp2_with fail
  refine (examples_any _ HE.out).mono ?_
  rintro e w0 ⟨rfl, b0⟩
  go_wp2_with fail
  refine (of_lit a _ (opEnv_later HE.out b0) HW.out nm p r 6 true (by rw [HI.out]; rfl) (by rw [HI.out]; rfl)).mono ?_
  rintro e w1 ⟨rfl, c1⟩
  have b1 := b0.trans (c1.mono b0.size)
  have B1 := b1.alloc b1.size (.cells #[.string nm, .int .i64 6, .string p, .string r] 24)
  go_wp2_with fail
  refine (right_v a 64 0 none 0 _ (opEnv_later HE.out B1) HW.out false H2.out).mono ?_
  rintro e w2 ⟨rfl, c2⟩
  have s1 : w1.heap.size < w2.heap.size := by have := c2.size; simp at this; omega
  have r1 : w2.cell? ⟨w1.heap.size, 1, none⟩ = some (.int .i64 6) := cell_later c2 (by simp)
  have B2 := B1.trans (c2.mono B1.size)
  go_wp2_with fail
  refine (right_v a 0 0 none 0 _ (opEnv_later HE.out B2) HW.out true H1.out).mono ?_
  rintro e w3 ⟨rfl, c3⟩
  have r2 : w3.cell? ⟨w1.heap.size, 1, none⟩ = some (.int .i64 6) := cell_later c3 r1
  go_wp2_with fail
  go_ret
  exact ⟨rfl, B2.trans (c3.mono B2.size)⟩

set_option maxRecDepth 100000 in
set_option maxHeartbeats 2000000 in
theorem ranges_6_pos (a : Nat) (nm p r : ByteArray) (n : Int) (h : 0 < n ∧ n < 4294967296) (w : World) (hE : OpEnv w) (ha : a < 256) (hi : opInfo (a : Int) = some ⟨nm, 6, p, r⟩) :
    Calls Tryd.prog 7 #[.int .u8 a, .int .i64 n] w fun e w' => e = .returned (.bool true) ∧ Below w.heap.size w w' := by
  have HE := Lib.hid hE
  have HI := Lib.hid hi
  have HW := Lib.hid (wf8 a ha)
  have H1 := Lib.hid (show rightB a n 0 [] = false from (by rw [right_tail hi _ _ (.inl rfl), tail_6]; first | decide | exact beq_eq_false_iff_ne.2 (by omega)))
  have H2 := Lib.hid (show rightB a 64 n [] = false from right_bad hi 64 n [] (by omega) (by decide))
  have d0 : decide (0 ≤ n) = true := decide_eq_true (by omega)
  have d1 : decide (n < 4294967296) = true := decide_eq_true (by omega)
  have d2 : (n == 0) = false := beq_eq_false_iff_ne.2 (by omega)
  clear h
  clear hE hi
  go_enter Tryd.func7, Tryd.ntmps7
  go_wp2_with fail
  refine (examples_any _ HE.out).mono ?_
  rintro e w0 ⟨rfl, b0⟩
  go_wp2_with fail
  refine (of_lit a _ (opEnv_later HE.out b0) HW.out nm p r 6 true (by rw [HI.out]; rfl) (by rw [HI.out]; rfl)).mono ?_
  rintro e w1 ⟨rfl, c1⟩
  have b1 := b0.trans (c1.mono b0.size)
  have B1 := b1.alloc b1.size (.cells #[.string nm, .int .i64 6, .string p, .string r] 24)
  go_wp2_with fail
  refine (right_v a 64 n none 0 _ (opEnv_later HE.out B1) HW.out false H2.out).mono ?_
  rintro e w2 ⟨rfl, c2⟩
  have s1 : w1.heap.size < w2.heap.size := by have := c2.size; simp at this; omega
  have r1 : w2.cell? ⟨w1.heap.size, 1, none⟩ = some (.int .i64 6) := cell_later c2 (by simp)
  have B2 := B1.trans (c2.mono B1.size)
  go_wp2_with fail
  refine (right_v a n 0 none 0 _ (opEnv_later HE.out B2) HW.out false H1.out).mono ?_
  rintro e w3 ⟨rfl, c3⟩
  have r2 : w3.cell? ⟨w1.heap.size, 1, none⟩ = some (.int .i64 6) := cell_later c3 r1
  go_wp2_with fail
  go_ret
  exact ⟨rfl, B2.trans (c3.mono B2.size)⟩

set_option maxRecDepth 100000 in
set_option maxHeartbeats 2000000 in
theorem ranges_6_big (a : Nat) (nm p r : ByteArray) (n : Int) (h : 4294967296 ≤ n) (w : World) (hE : OpEnv w) (ha : a < 256) (hi : opInfo (a : Int) = some ⟨nm, 6, p, r⟩) :
    Calls Tryd.prog 7 #[.int .u8 a, .int .i64 n] w fun e w' => e = .returned (.bool true) ∧ Below w.heap.size w w' := by
  have HE := Lib.hid hE
  have HI := Lib.hid hi
  have HW := Lib.hid (wf8 a ha)
  have H1 := Lib.hid (show rightB a n 0 [] = false from (by rw [right_tail hi _ _ (.inl rfl), tail_6]; first | decide | exact beq_eq_false_iff_ne.2 (by omega)))
  have H2 := Lib.hid (show rightB a 64 n [] = false from right_bad hi 64 n [] (by omega) (by decide))
  have d0 : decide (0 ≤ n) = true := decide_eq_true (by omega)
  have d1 : decide (n < 4294967296) = false := decide_eq_false (by omega)
  have d2 : (n == 0) = false := beq_eq_false_iff_ne.2 (by omega)
  clear h
  clear hE hi
  go_enter Tryd.func7, Tryd.ntmps7
  go_wp2_with fail
  refine (examples_any _ HE.out).mono ?_
  rintro e w0 ⟨rfl, b0⟩
  go_wp2_with fail
  refine (of_lit a _ (opEnv_later HE.out b0) HW.out nm p r 6 true (by rw [HI.out]; rfl) (by rw [HI.out]; rfl)).mono ?_
  rintro e w1 ⟨rfl, c1⟩
  have b1 := b0.trans (c1.mono b0.size)
  have B1 := b1.alloc b1.size (.cells #[.string nm, .int .i64 6, .string p, .string r] 24)
  go_wp2_with fail
  refine (right_v a 64 n none 0 _ (opEnv_later HE.out B1) HW.out false H2.out).mono ?_
  rintro e w2 ⟨rfl, c2⟩
  have s1 : w1.heap.size < w2.heap.size := by have := c2.size; simp at this; omega
  have r1 : w2.cell? ⟨w1.heap.size, 1, none⟩ = some (.int .i64 6) := cell_later c2 (by simp)
  have B2 := B1.trans (c2.mono B1.size)
  go_wp2_with fail
  refine (right_v a n 0 none 0 _ (opEnv_later HE.out B2) HW.out false H1.out).mono ?_
  rintro e w3 ⟨rfl, c3⟩
  have r2 : w3.cell? ⟨w1.heap.size, 1, none⟩ = some (.int .i64 6) := cell_later c3 r1
  go_wp2_with fail
  go_ret
  exact ⟨rfl, B2.trans (c3.mono B2.size)⟩

set_option maxRecDepth 100000 in
set_option maxHeartbeats 2000000 in
theorem ranges_1_neg (a : Nat) (nm p r : ByteArray) (n : Int) (h : n < 0) (w : World) (hE : OpEnv w) (ha : a < 256) (hi : opInfo (a : Int) = some ⟨nm, 1, p, r⟩) :
    Calls Tryd.prog 7 #[.int .u8 a, .int .i64 n] w fun e w' => e = .returned (.bool true) ∧ Below w.heap.size w w' := by
  have HE := Lib.hid hE
  have HI := Lib.hid hi
  have HW := Lib.hid (wf8 a ha)
  have H1 := Lib.hid (show rightB a n 0 [] = false from (by rw [right_tail hi _ _ (.inl rfl), tail_1]; first | decide | (simp; omega)))
  have H2 := Lib.hid (show rightB a 64 n [] = false from right_bad hi 64 n [] (by omega) (by decide))
  have d0 : decide (0 ≤ n) = false := decide_eq_false (by omega)
  have d1 : decide (n < 4294967296) = true := decide_eq_true (by omega)
  have d2 : (n == 0) = false := beq_eq_false_iff_ne.2 (by omega)
  have e64 : (n == 64) = false := beq_eq_false_iff_ne.2 (by omega)
  have e126 : (n == 126) = false := beq_eq_false_iff_ne.2 (by omega)
  have e127 : (n == 127) = false := beq_eq_false_iff_ne.2 (by omega)
  clear h
  clear hE hi
  go_enter Tryd.func7, Tryd.ntmps7
  go_wp2_with fail
  refine (examples_any _ HE.out).mono ?_
  rintro e w0 ⟨rfl, b0⟩
  go_wp2_with fail
  refine (of_lit a _ (opEnv_later HE.out b0) HW.out nm p r 1 true (by rw [HI.out]; rfl) (by rw [HI.out]; rfl)).mono ?_
  rintro e w1 ⟨rfl, c1⟩
  have b1 := b0.trans (c1.mono b0.size)
  have B1 := b1.alloc b1.size (.cells #[.string nm, .int .i64 1, .string p, .string r] 24)
  go_wp2_with fail
  refine (right_v a 64 n none 0 _ (opEnv_later HE.out B1) HW.out false H2.out).mono ?_
  rintro e w2 ⟨rfl, c2⟩
  have s1 : w1.heap.size < w2.heap.size := by have := c2.size; simp at this; omega
  have r1 : w2.cell? ⟨w1.heap.size, 1, none⟩ = some (.int .i64 1) := cell_later c2 (by simp)
  have B2 := B1.trans (c2.mono B1.size)
  go_wp2_with fail
  refine (right_v a n 0 none 0 _ (opEnv_later HE.out B2) HW.out false H1.out).mono ?_
  rintro e w3 ⟨rfl, c3⟩
  have r2 : w3.cell? ⟨w1.heap.size, 1, none⟩ = some (.int .i64 1) := cell_later c3 r1
  go_wp2_with fail
  go_ret
  exact ⟨rfl, B2.trans (c3.mono B2.size)⟩

set_option maxRecDepth 100000 in
set_option maxHeartbeats 2000000 in
theorem ranges_1_z (a : Nat) (nm p r : ByteArray) (w : World) (hE : OpEnv w) (ha : a < 256) (hi : opInfo (a : Int) = some ⟨nm, 1, p, r⟩) :
    Calls Tryd.prog 7 #[.int .u8 a, .int .i64 0] w fun e w' => e = .returned (.bool true) ∧ Below w.heap.size w w' := by
  have HE := Lib.hid hE
  have HI := Lib.hid hi
  have HW := Lib.hid (wf8 a ha)
  have H1 := Lib.hid (show rightB a 0 0 [] = false from (by rw [right_tail hi _ _ (.inl rfl), tail_1]; first | decide | (simp; omega)))
  have H2 := Lib.hid (show rightB a 64 0 [] = true from (by rw [right_tail hi _ _ (.inl rfl), tail_1]; first | decide | (simp; omega)))
  clear hE hi
  go_enter Tryd.func7, Tryd.ntmps7
  go_wp2_with fail
  refine (examples_any _ HE.out).mono ?_
  rintro e w0 ⟨rfl, b0⟩
  go_wp2_with fail
  refine (of_lit a _ (opEnv_later HE.out b0) HW.out nm p r 1 true (by rw [HI.out]; rfl) (by rw [HI.out]; rfl)).mono ?_
  rintro e w1 ⟨rfl, c1⟩
  have b1 := b0.trans (c1.mono b0.size)
  have B1 := b1.alloc b1.size (.cells #[.string nm, .int .i64 1, .string p, .string r] 24)
  go_wp2_with fail
  refine (right_v a 64 0 none 0 _ (opEnv_later HE.out B1) HW.out true H2.out).mono ?_
  rintro e w2 ⟨rfl, c2⟩
  have s1 : w1.heap.size < w2.heap.size := by have := c2.size; simp at this; omega
  have r1 : w2.cell? ⟨w1.heap.size, 1, none⟩ = some (.int .i64 1) := cell_later c2 (by simp)
  have B2 := B1.trans (c2.mono B1.size)
  go_wp2_with fail
  refine (right_v a 0 0 none 0 _ (opEnv_later HE.out B2) HW.out false H1.out).mono ?_
  rintro e w3 ⟨rfl, c3⟩
  have r2 : w3.cell? ⟨w1.heap.size, 1, none⟩ = some (.int .i64 1) := cell_later c3 r1
  go_wp2_with fail
  go_ret
  exact ⟨rfl, B2.trans (c3.mono B2.size)⟩

set_option maxRecDepth 100000 in
set_option maxHeartbeats 2000000 in
theorem ranges_1_c64 (a : Nat) (nm p r : ByteArray) (w : World) (hE : OpEnv w) (ha : a < 256) (hi : opInfo (a : Int) = some ⟨nm, 1, p, r⟩) :
    Calls Tryd.prog 7 #[.int .u8 a, .int .i64 64] w fun e w' => e = .returned (.bool true) ∧ Below w.heap.size w w' := by
  have HE := Lib.hid hE
  have HI := Lib.hid hi
  have HW := Lib.hid (wf8 a ha)
  have H1 := Lib.hid (show rightB a 64 0 [] = true from (by rw [right_tail hi _ _ (.inl rfl), tail_1]; first | decide | (simp; omega)))
  have H2 := Lib.hid (show rightB a 64 64 [] = false from right_bad hi 64 64 [] (by omega) (by decide))
  clear hE hi
  go_enter Tryd.func7, Tryd.ntmps7
  go_wp2_with fail
  refine (examples_any _ HE.out).mono ?_
  rintro e w0 ⟨rfl, b0⟩
  go_wp2_with fail
  refine (of_lit a _ (opEnv_later HE.out b0) HW.out nm p r 1 true (by rw [HI.out]; rfl) (by rw [HI.out]; rfl)).mono ?_
  rintro e w1 ⟨rfl, c1⟩
  have b1 := b0.trans (c1.mono b0.size)
  have B1 := b1.alloc b1.size (.cells #[.string nm, .int .i64 1, .string p, .string r] 24)
  go_wp2_with fail
  refine (right_v a 64 64 none 0 _ (opEnv_later HE.out B1) HW.out false H2.out).mono ?_
  rintro e w2 ⟨rfl, c2⟩
  have s1 : w1.heap.size < w2.heap.size := by have := c2.size; simp at this; omega
  have r1 : w2.cell? ⟨w1.heap.size, 1, none⟩ = some (.int .i64 1) := cell_later c2 (by simp)
  have B2 := B1.trans (c2.mono B1.size)
  go_wp2_with fail
  refine (right_v a 64 0 none 0 _ (opEnv_later HE.out B2) HW.out true H1.out).mono ?_
  rintro e w3 ⟨rfl, c3⟩
  have r2 : w3.cell? ⟨w1.heap.size, 1, none⟩ = some (.int .i64 1) := cell_later c3 r1
  go_wp2_with fail
  go_ret
  exact ⟨rfl, B2.trans (c3.mono B2.size)⟩

set_option maxRecDepth 100000 in
set_option maxHeartbeats 2000000 in
theorem ranges_1_c126 (a : Nat) (nm p r : ByteArray) (w : World) (hE : OpEnv w) (ha : a < 256) (hi : opInfo (a : Int) = some ⟨nm, 1, p, r⟩) :
    Calls Tryd.prog 7 #[.int .u8 a, .int .i64 126] w fun e w' => e = .returned (.bool true) ∧ Below w.heap.size w w' := by
  have HE := Lib.hid hE
  have HI := Lib.hid hi
  have HW := Lib.hid (wf8 a ha)
  have H1 := Lib.hid (show rightB a 126 0 [] = true from (by rw [right_tail hi _ _ (.inl rfl), tail_1]; first | decide | (simp; omega)))
  have H2 := Lib.hid (show rightB a 64 126 [] = false from right_bad hi 64 126 [] (by omega) (by decide))
  clear hE hi
  go_enter Tryd.func7, Tryd.ntmps7
  go_wp2_with fail
  refine (examples_any _ HE.out).mono ?_
  rintro e w0 ⟨rfl, b0⟩
  go_wp2_with fail
  refine (of_lit a _ (opEnv_later HE.out b0) HW.out nm p r 1 true (by rw [HI.out]; rfl) (by rw [HI.out]; rfl)).mono ?_
  rintro e w1 ⟨rfl, c1⟩
  have b1 := b0.trans (c1.mono b0.size)
  have B1 := b1.alloc b1.size (.cells #[.string nm, .int .i64 1, .string p, .string r] 24)
  go_wp2_with fail
  refine (right_v a 64 126 none 0 _ (opEnv_later HE.out B1) HW.out false H2.out).mono ?_
  rintro e w2 ⟨rfl, c2⟩
  have s1 : w1.heap.size < w2.heap.size := by have := c2.size; simp at this; omega
  have r1 : w2.cell? ⟨w1.heap.size, 1, none⟩ = some (.int .i64 1) := cell_later c2 (by simp)
  have B2 := B1.trans (c2.mono B1.size)
  go_wp2_with fail
  refine (right_v a 126 0 none 0 _ (opEnv_later HE.out B2) HW.out true H1.out).mono ?_
  rintro e w3 ⟨rfl, c3⟩
  have r2 : w3.cell? ⟨w1.heap.size, 1, none⟩ = some (.int .i64 1) := cell_later c3 r1
  go_wp2_with fail
  go_ret
  exact ⟨rfl, B2.trans (c3.mono B2.size)⟩

set_option maxRecDepth 100000 in
set_option maxHeartbeats 2000000 in
theorem ranges_1_c127 (a : Nat) (nm p r : ByteArray) (w : World) (hE : OpEnv w) (ha : a < 256) (hi : opInfo (a : Int) = some ⟨nm, 1, p, r⟩) :
    Calls Tryd.prog 7 #[.int .u8 a, .int .i64 127] w fun e w' => e = .returned (.bool true) ∧ Below w.heap.size w w' := by
  have HE := Lib.hid hE
  have HI := Lib.hid hi
  have HW := Lib.hid (wf8 a ha)
  have H1 := Lib.hid (show rightB a 127 0 [] = true from (by rw [right_tail hi _ _ (.inl rfl), tail_1]; first | decide | (simp; omega)))
  have H2 := Lib.hid (show rightB a 64 127 [] = false from right_bad hi 64 127 [] (by omega) (by decide))
  clear hE hi
  go_enter Tryd.func7, Tryd.ntmps7
  go_wp2_with fail
  refine (examples_any _ HE.out).mono ?_
  rintro e w0 ⟨rfl, b0⟩
  go_wp2_with fail
  refine (of_lit a _ (opEnv_later HE.out b0) HW.out nm p r 1 true (by rw [HI.out]; rfl) (by rw [HI.out]; rfl)).mono ?_
  rintro e w1 ⟨rfl, c1⟩
  have b1 := b0.trans (c1.mono b0.size)
  have B1 := b1.alloc b1.size (.cells #[.string nm, .int .i64 1, .string p, .string r] 24)
  go_wp2_with fail
  refine (right_v a 64 127 none 0 _ (opEnv_later HE.out B1) HW.out false H2.out).mono ?_
  rintro e w2 ⟨rfl, c2⟩
  have s1 : w1.heap.size < w2.heap.size := by have := c2.size; simp at this; omega
  have r1 : w2.cell? ⟨w1.heap.size, 1, none⟩ = some (.int .i64 1) := cell_later c2 (by simp)
  have B2 := B1.trans (c2.mono B1.size)
  go_wp2_with fail
  refine (right_v a 127 0 none 0 _ (opEnv_later HE.out B2) HW.out true H1.out).mono ?_
  rintro e w3 ⟨rfl, c3⟩
  have r2 : w3.cell? ⟨w1.heap.size, 1, none⟩ = some (.int .i64 1) := cell_later c3 r1
  go_wp2_with fail
  go_ret
  exact ⟨rfl, B2.trans (c3.mono B2.size)⟩

set_option maxRecDepth 100000 in
set_option maxHeartbeats 2000000 in
theorem ranges_1_oth (a : Nat) (nm p r : ByteArray) (n : Int) (h : 0 < n ∧ n < 4294967296 ∧ n ≠ 64 ∧ n ≠ 126 ∧ n ≠ 127) (w : World) (hE : OpEnv w) (ha : a < 256) (hi : opInfo (a : Int) = some ⟨nm, 1, p, r⟩) :
    Calls Tryd.prog 7 #[.int .u8 a, .int .i64 n] w fun e w' => e = .returned (.bool true) ∧ Below w.heap.size w w' := by
  have HE := Lib.hid hE
  have HI := Lib.hid hi
  have HW := Lib.hid (wf8 a ha)
  have H1 := Lib.hid (show rightB a n 0 [] = false from (by rw [right_tail hi _ _ (.inl rfl), tail_1]; first | decide | (simp; omega)))
  have H2 := Lib.hid (show rightB a 64 n [] = false from right_bad hi 64 n [] (by omega) (by decide))
  have d0 : decide (0 ≤ n) = true := decide_eq_true (by omega)
  have d1 : decide (n < 4294967296) = true := decide_eq_true (by omega)
  have d2 : (n == 0) = false := beq_eq_false_iff_ne.2 (by omega)
  have e64 : (n == 64) = false := beq_eq_false_iff_ne.2 (by omega)
  have e126 : (n == 126) = false := beq_eq_false_iff_ne.2 (by omega)
  have e127 : (n == 127) = false := beq_eq_false_iff_ne.2 (by omega)
  clear h
  clear hE hi
  go_enter Tryd.func7, Tryd.ntmps7
  go_wp2_with fail
  refine (examples_any _ HE.out).mono ?_
  rintro e w0 ⟨rfl, b0⟩
  go_wp2_with fail
  refine (of_lit a _ (opEnv_later HE.out b0) HW.out nm p r 1 true (by rw [HI.out]; rfl) (by rw [HI.out]; rfl)).mono ?_
  rintro e w1 ⟨rfl, c1⟩
  have b1 := b0.trans (c1.mono b0.size)
  have B1 := b1.alloc b1.size (.cells #[.string nm, .int .i64 1, .string p, .string r] 24)
  go_wp2_with fail
  refine (right_v a 64 n none 0 _ (opEnv_later HE.out B1) HW.out false H2.out).mono ?_
  rintro e w2 ⟨rfl, c2⟩
  have s1 : w1.heap.size < w2.heap.size := by have := c2.size; simp at this; omega
  have r1 : w2.cell? ⟨w1.heap.size, 1, none⟩ = some (.int .i64 1) := cell_later c2 (by simp)
  have B2 := B1.trans (c2.mono B1.size)
  go_wp2_with fail
  refine (right_v a n 0 none 0 _ (opEnv_later HE.out B2) HW.out false H1.out).mono ?_
  rintro e w3 ⟨rfl, c3⟩
  have r2 : w3.cell? ⟨w1.heap.size, 1, none⟩ = some (.int .i64 1) := cell_later c3 r1
  go_wp2_with fail
  go_ret
  exact ⟨rfl, B2.trans (c3.mono B2.size)⟩

set_option maxRecDepth 100000 in
set_option maxHeartbeats 2000000 in
theorem ranges_1_big (a : Nat) (nm p r : ByteArray) (n : Int) (h : 4294967296 ≤ n) (w : World) (hE : OpEnv w) (ha : a < 256) (hi : opInfo (a : Int) = some ⟨nm, 1, p, r⟩) :
    Calls Tryd.prog 7 #[.int .u8 a, .int .i64 n] w fun e w' => e = .returned (.bool true) ∧ Below w.heap.size w w' := by
  have HE := Lib.hid hE
  have HI := Lib.hid hi
  have HW := Lib.hid (wf8 a ha)
  have H1 := Lib.hid (show rightB a n 0 [] = false from (by rw [right_tail hi _ _ (.inl rfl), tail_1]; first | decide | (simp; omega)))
  have H2 := Lib.hid (show rightB a 64 n [] = false from right_bad hi 64 n [] (by omega) (by decide))
  have d0 : decide (0 ≤ n) = true := decide_eq_true (by omega)
  have d1 : decide (n < 4294967296) = false := decide_eq_false (by omega)
  have d2 : (n == 0) = false := beq_eq_false_iff_ne.2 (by omega)
  have e64 : (n == 64) = false := beq_eq_false_iff_ne.2 (by omega)
  have e126 : (n == 126) = false := beq_eq_false_iff_ne.2 (by omega)
  have e127 : (n == 127) = false := beq_eq_false_iff_ne.2 (by omega)
  clear h
  clear hE hi
  go_enter Tryd.func7, Tryd.ntmps7
  go_wp2_with fail
  refine (examples_any _ HE.out).mono ?_
  rintro e w0 ⟨rfl, b0⟩
  go_wp2_with fail
  refine (of_lit a _ (opEnv_later HE.out b0) HW.out nm p r 1 true (by rw [HI.out]; rfl) (by rw [HI.out]; rfl)).mono ?_
  rintro e w1 ⟨rfl, c1⟩
  have b1 := b0.trans (c1.mono b0.size)
  have B1 := b1.alloc b1.size (.cells #[.string nm, .int .i64 1, .string p, .string r] 24)
  go_wp2_with fail
  refine (right_v a 64 n none 0 _ (opEnv_later HE.out B1) HW.out false H2.out).mono ?_
  rintro e w2 ⟨rfl, c2⟩
  have s1 : w1.heap.size < w2.heap.size := by have := c2.size; simp at this; omega
  have r1 : w2.cell? ⟨w1.heap.size, 1, none⟩ = some (.int .i64 1) := cell_later c2 (by simp)
  have B2 := B1.trans (c2.mono B1.size)
  go_wp2_with fail
  refine (right_v a n 0 none 0 _ (opEnv_later HE.out B2) HW.out false H1.out).mono ?_
  rintro e w3 ⟨rfl, c3⟩
  have r2 : w3.cell? ⟨w1.heap.size, 1, none⟩ = some (.int .i64 1) := cell_later c3 r1
  go_wp2_with fail
  go_ret
  exact ⟨rfl, B2.trans (c3.mono B2.size)⟩

set_option maxRecDepth 100000 in
set_option maxHeartbeats 2000000 in
theorem ranges_2_neg (a : Nat) (nm p r : ByteArray) (n : Int) (h : n < 0) (w : World) (hE : OpEnv w) (ha : a < 256) (hi : opInfo (a : Int) = some ⟨nm, 2, p, r⟩) :
    Calls Tryd.prog 7 #[.int .u8 a, .int .i64 n] w fun e w' => e = .returned (.bool true) ∧ Below w.heap.size w w' := by
  have HE := Lib.hid hE
  have HI := Lib.hid hi
  have HW := Lib.hid (wf8 a ha)
  have H1 := Lib.hid (show rightB a n 0 [] = false from (by rw [right_tail hi _ _ (.inl rfl), tail_w 2 _ _ _ (by decide) (by decide)]; first | decide | (rw [(word_neg (n := n) (by omega)), word0]; rfl)))
  have H2 := Lib.hid (show rightB a 64 n [] = false from right_bad hi 64 n [] (by omega) (by decide))
  have d0 : decide (0 ≤ n) = false := decide_eq_false (by omega)
  have d1 : decide (n < 4294967296) = true := decide_eq_true (by omega)
  have d2 : (n == 0) = false := beq_eq_false_iff_ne.2 (by omega)
  clear h
  clear hE hi
  go_enter Tryd.func7, Tryd.ntmps7
  go_wp2_with fail
  refine (examples_any _ HE.out).mono ?_
  rintro e w0 ⟨rfl, b0⟩
  go_wp2_with fail
  refine (of_lit a _ (opEnv_later HE.out b0) HW.out nm p r 2 true (by rw [HI.out]; rfl) (by rw [HI.out]; rfl)).mono ?_
  rintro e w1 ⟨rfl, c1⟩
  have b1 := b0.trans (c1.mono b0.size)
  have B1 := b1.alloc b1.size (.cells #[.string nm, .int .i64 2, .string p, .string r] 24)
  go_wp2_with fail
  refine (right_v a 64 n none 0 _ (opEnv_later HE.out B1) HW.out false H2.out).mono ?_
  rintro e w2 ⟨rfl, c2⟩
  have s1 : w1.heap.size < w2.heap.size := by have := c2.size; simp at this; omega
  have r1 : w2.cell? ⟨w1.heap.size, 1, none⟩ = some (.int .i64 2) := cell_later c2 (by simp)
  have B2 := B1.trans (c2.mono B1.size)
  go_wp2_with fail
  refine (right_v a n 0 none 0 _ (opEnv_later HE.out B2) HW.out false H1.out).mono ?_
  rintro e w3 ⟨rfl, c3⟩
  have r2 : w3.cell? ⟨w1.heap.size, 1, none⟩ = some (.int .i64 2) := cell_later c3 r1
  go_wp2_with fail
  go_ret
  exact ⟨rfl, B2.trans (c3.mono B2.size)⟩

set_option maxRecDepth 100000 in
set_option maxHeartbeats 2000000 in
theorem ranges_2_z (a : Nat) (nm p r : ByteArray) (w : World) (hE : OpEnv w) (ha : a < 256) (hi : opInfo (a : Int) = some ⟨nm, 2, p, r⟩) :
    Calls Tryd.prog 7 #[.int .u8 a, .int .i64 0] w fun e w' => e = .returned (.bool true) ∧ Below w.heap.size w w' := by
  have HE := Lib.hid hE
  have HI := Lib.hid hi
  have HW := Lib.hid (wf8 a ha)
  have H1 := Lib.hid (show rightB a 0 0 [] = true from (by rw [right_tail hi _ _ (.inl rfl), tail_w 2 _ _ _ (by decide) (by decide)]; first | decide | (rw [word0]; rfl)))
  have H2 := Lib.hid (show rightB a 64 0 [] = true from (by rw [right_tail hi _ _ (.inl rfl), tail_w 2 _ _ _ (by decide) (by decide)]; decide))
  clear hE hi
  go_enter Tryd.func7, Tryd.ntmps7
  go_wp2_with fail
  refine (examples_any _ HE.out).mono ?_
  rintro e w0 ⟨rfl, b0⟩
  go_wp2_with fail
  refine (of_lit a _ (opEnv_later HE.out b0) HW.out nm p r 2 true (by rw [HI.out]; rfl) (by rw [HI.out]; rfl)).mono ?_
  rintro e w1 ⟨rfl, c1⟩
  have b1 := b0.trans (c1.mono b0.size)
  have B1 := b1.alloc b1.size (.cells #[.string nm, .int .i64 2, .string p, .string r] 24)
  go_wp2_with fail
  refine (right_v a 64 0 none 0 _ (opEnv_later HE.out B1) HW.out true H2.out).mono ?_
  rintro e w2 ⟨rfl, c2⟩
  have s1 : w1.heap.size < w2.heap.size := by have := c2.size; simp at this; omega
  have r1 : w2.cell? ⟨w1.heap.size, 1, none⟩ = some (.int .i64 2) := cell_later c2 (by simp)
  have B2 := B1.trans (c2.mono B1.size)
  go_wp2_with fail
  refine (right_v a 0 0 none 0 _ (opEnv_later HE.out B2) HW.out true H1.out).mono ?_
  rintro e w3 ⟨rfl, c3⟩
  have r2 : w3.cell? ⟨w1.heap.size, 1, none⟩ = some (.int .i64 2) := cell_later c3 r1
  go_wp2_with fail
  go_ret
  exact ⟨rfl, B2.trans (c3.mono B2.size)⟩

set_option maxRecDepth 100000 in
set_option maxHeartbeats 2000000 in
theorem ranges_2_pos (a : Nat) (nm p r : ByteArray) (n : Int) (h : 0 < n ∧ n < 4294967296) (w : World) (hE : OpEnv w) (ha : a < 256) (hi : opInfo (a : Int) = some ⟨nm, 2, p, r⟩) :
    Calls Tryd.prog 7 #[.int .u8 a, .int .i64 n] w fun e w' => e = .returned (.bool true) ∧ Below w.heap.size w w' := by
  have HE := Lib.hid hE
  have HI := Lib.hid hi
  have HW := Lib.hid (wf8 a ha)
  have H1 := Lib.hid (show rightB a n 0 [] = true from (by rw [right_tail hi _ _ (.inl rfl), tail_w 2 _ _ _ (by decide) (by decide)]; first | decide | (rw [(word_yes (n := n) (by omega) (by omega)), word0]; rfl)))
  have H2 := Lib.hid (show rightB a 64 n [] = false from right_bad hi 64 n [] (by omega) (by decide))
  have d0 : decide (0 ≤ n) = true := decide_eq_true (by omega)
  have d1 : decide (n < 4294967296) = true := decide_eq_true (by omega)
  have d2 : (n == 0) = false := beq_eq_false_iff_ne.2 (by omega)
  clear h
  clear hE hi
  go_enter Tryd.func7, Tryd.ntmps7
  go_wp2_with fail
  refine (examples_any _ HE.out).mono ?_
  rintro e w0 ⟨rfl, b0⟩
  go_wp2_with fail
  refine (of_lit a _ (opEnv_later HE.out b0) HW.out nm p r 2 true (by rw [HI.out]; rfl) (by rw [HI.out]; rfl)).mono ?_
  rintro e w1 ⟨rfl, c1⟩
  have b1 := b0.trans (c1.mono b0.size)
  have B1 := b1.alloc b1.size (.cells #[.string nm, .int .i64 2, .string p, .string r] 24)
  go_wp2_with fail
  refine (right_v a 64 n none 0 _ (opEnv_later HE.out B1) HW.out false H2.out).mono ?_
  rintro e w2 ⟨rfl, c2⟩
  have s1 : w1.heap.size < w2.heap.size := by have := c2.size; simp at this; omega
  have r1 : w2.cell? ⟨w1.heap.size, 1, none⟩ = some (.int .i64 2) := cell_later c2 (by simp)
  have B2 := B1.trans (c2.mono B1.size)
  go_wp2_with fail
  refine (right_v a n 0 none 0 _ (opEnv_later HE.out B2) HW.out true H1.out).mono ?_
  rintro e w3 ⟨rfl, c3⟩
  have r2 : w3.cell? ⟨w1.heap.size, 1, none⟩ = some (.int .i64 2) := cell_later c3 r1
  go_wp2_with fail
  go_ret
  exact ⟨rfl, B2.trans (c3.mono B2.size)⟩

set_option maxRecDepth 100000 in
set_option maxHeartbeats 2000000 in
theorem ranges_2_big (a : Nat) (nm p r : ByteArray) (n : Int) (h : 4294967296 ≤ n) (w : World) (hE : OpEnv w) (ha : a < 256) (hi : opInfo (a : Int) = some ⟨nm, 2, p, r⟩) :
    Calls Tryd.prog 7 #[.int .u8 a, .int .i64 n] w fun e w' => e = .returned (.bool true) ∧ Below w.heap.size w w' := by
  have HE := Lib.hid hE
  have HI := Lib.hid hi
  have HW := Lib.hid (wf8 a ha)
  have H1 := Lib.hid (show rightB a n 0 [] = false from (by rw [right_tail hi _ _ (.inl rfl), tail_w 2 _ _ _ (by decide) (by decide)]; first | decide | (rw [(word_big (n := n) (by omega)), word0]; rfl)))
  have H2 := Lib.hid (show rightB a 64 n [] = false from right_bad hi 64 n [] (by omega) (by decide))
  have d0 : decide (0 ≤ n) = true := decide_eq_true (by omega)
  have d1 : decide (n < 4294967296) = false := decide_eq_false (by omega)
  have d2 : (n == 0) = false := beq_eq_false_iff_ne.2 (by omega)
  clear h
  clear hE hi
  go_enter Tryd.func7, Tryd.ntmps7
  go_wp2_with fail
  refine (examples_any _ HE.out).mono ?_
  rintro e w0 ⟨rfl, b0⟩
  go_wp2_with fail
  refine (of_lit a _ (opEnv_later HE.out b0) HW.out nm p r 2 true (by rw [HI.out]; rfl) (by rw [HI.out]; rfl)).mono ?_
  rintro e w1 ⟨rfl, c1⟩
  have b1 := b0.trans (c1.mono b0.size)
  have B1 := b1.alloc b1.size (.cells #[.string nm, .int .i64 2, .string p, .string r] 24)
  go_wp2_with fail
  refine (right_v a 64 n none 0 _ (opEnv_later HE.out B1) HW.out false H2.out).mono ?_
  rintro e w2 ⟨rfl, c2⟩
  have s1 : w1.heap.size < w2.heap.size := by have := c2.size; simp at this; omega
  have r1 : w2.cell? ⟨w1.heap.size, 1, none⟩ = some (.int .i64 2) := cell_later c2 (by simp)
  have B2 := B1.trans (c2.mono B1.size)
  go_wp2_with fail
  refine (right_v a n 0 none 0 _ (opEnv_later HE.out B2) HW.out false H1.out).mono ?_
  rintro e w3 ⟨rfl, c3⟩
  have r2 : w3.cell? ⟨w1.heap.size, 1, none⟩ = some (.int .i64 2) := cell_later c3 r1
  go_wp2_with fail
  go_ret
  exact ⟨rfl, B2.trans (c3.mono B2.size)⟩

set_option maxRecDepth 100000 in
set_option maxHeartbeats 2000000 in
theorem ranges_3_neg (a : Nat) (nm p r : ByteArray) (n : Int) (h : n < 0) (w : World) (hE : OpEnv w) (ha : a < 256) (hi : opInfo (a : Int) = some ⟨nm, 3, p, r⟩) :
    Calls Tryd.prog 7 #[.int .u8 a, .int .i64 n] w fun e w' => e = .returned (.bool true) ∧ Below w.heap.size w w' := by
  have HE := Lib.hid hE
  have HI := Lib.hid hi
  have HW := Lib.hid (wf8 a ha)
  have H1 := Lib.hid (show rightB a n 0 [] = false from (by rw [right_tail hi _ _ (.inl rfl), tail_w 3 _ _ _ (by decide) (by decide)]; first | decide | (rw [(word_neg (n := n) (by omega)), word0]; rfl)))
  have H2 := Lib.hid (show rightB a 64 n [] = false from right_bad hi 64 n [] (by omega) (by decide))
  have d0 : decide (0 ≤ n) = false := decide_eq_false (by omega)
  have d1 : decide (n < 4294967296) = true := decide_eq_true (by omega)
  have d2 : (n == 0) = false := beq_eq_false_iff_ne.2 (by omega)
  clear h
  clear hE hi
  go_enter Tryd.func7, Tryd.ntmps7
  go_wp2_with fail
  refine (examples_any _ HE.out).mono ?_
  rintro e w0 ⟨rfl, b0⟩
  go_wp2_with fail
  refine (of_lit a _ (opEnv_later HE.out b0) HW.out nm p r 3 true (by rw [HI.out]; rfl) (by rw [HI.out]; rfl)).mono ?_
  rintro e w1 ⟨rfl, c1⟩
  have b1 := b0.trans (c1.mono b0.size)
  have B1 := b1.alloc b1.size (.cells #[.string nm, .int .i64 3, .string p, .string r] 24)
  go_wp2_with fail
  refine (right_v a 64 n none 0 _ (opEnv_later HE.out B1) HW.out false H2.out).mono ?_
  rintro e w2 ⟨rfl, c2⟩
  have s1 : w1.heap.size < w2.heap.size := by have := c2.size; simp at this; omega
  have r1 : w2.cell? ⟨w1.heap.size, 1, none⟩ = some (.int .i64 3) := cell_later c2 (by simp)
  have B2 := B1.trans (c2.mono B1.size)
  go_wp2_with fail
  refine (right_v a n 0 none 0 _ (opEnv_later HE.out B2) HW.out false H1.out).mono ?_
  rintro e w3 ⟨rfl, c3⟩
  have r2 : w3.cell? ⟨w1.heap.size, 1, none⟩ = some (.int .i64 3) := cell_later c3 r1
  go_wp2_with fail
  go_ret
  exact ⟨rfl, B2.trans (c3.mono B2.size)⟩

set_option maxRecDepth 100000 in
set_option maxHeartbeats 2000000 in
theorem ranges_3_z (a : Nat) (nm p r : ByteArray) (w : World) (hE : OpEnv w) (ha : a < 256) (hi : opInfo (a : Int) = some ⟨nm, 3, p, r⟩) :
    Calls Tryd.prog 7 #[.int .u8 a, .int .i64 0] w fun e w' => e = .returned (.bool true) ∧ Below w.heap.size w w' := by
  have HE := Lib.hid hE
  have HI := Lib.hid hi
  have HW := Lib.hid (wf8 a ha)
  have H1 := Lib.hid (show rightB a 0 0 [] = true from (by rw [right_tail hi _ _ (.inl rfl), tail_w 3 _ _ _ (by decide) (by decide)]; first | decide | (rw [word0]; rfl)))
  have H2 := Lib.hid (show rightB a 64 0 [] = true from (by rw [right_tail hi _ _ (.inl rfl), tail_w 3 _ _ _ (by decide) (by decide)]; decide))
  clear hE hi
  go_enter Tryd.func7, Tryd.ntmps7
  go_wp2_with fail
  refine (examples_any _ HE.out).mono ?_
  rintro e w0 ⟨rfl, b0⟩
  go_wp2_with fail
  refine (of_lit a _ (opEnv_later HE.out b0) HW.out nm p r 3 true (by rw [HI.out]; rfl) (by rw [HI.out]; rfl)).mono ?_
  rintro e w1 ⟨rfl, c1⟩
  have b1 := b0.trans (c1.mono b0.size)
  have B1 := b1.alloc b1.size (.cells #[.string nm, .int .i64 3, .string p, .string r] 24)
  go_wp2_with fail
  refine (right_v a 64 0 none 0 _ (opEnv_later HE.out B1) HW.out true H2.out).mono ?_
  rintro e w2 ⟨rfl, c2⟩
  have s1 : w1.heap.size < w2.heap.size := by have := c2.size; simp at this; omega
  have r1 : w2.cell? ⟨w1.heap.size, 1, none⟩ = some (.int .i64 3) := cell_later c2 (by simp)
  have B2 := B1.trans (c2.mono B1.size)
  go_wp2_with fail
  refine (right_v a 0 0 none 0 _ (opEnv_later HE.out B2) HW.out true H1.out).mono ?_
  rintro e w3 ⟨rfl, c3⟩
  have r2 : w3.cell? ⟨w1.heap.size, 1, none⟩ = some (.int .i64 3) := cell_later c3 r1
  go_wp2_with fail
  go_ret
  exact ⟨rfl, B2.trans (c3.mono B2.size)⟩
end Go.Proofs.YtlbgbpgjccbbjaaDoor.Op
