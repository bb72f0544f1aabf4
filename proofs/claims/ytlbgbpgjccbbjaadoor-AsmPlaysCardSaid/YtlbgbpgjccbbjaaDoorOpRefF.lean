/-
  What the reference's Float, word and Right of chapter 3 answer. No condition beyond what each theorem names.
-/
import Derived.Test.YtlbgbpgjccbbjaaDoorOpRefE
import Derived.Test.YtlbgbpgjccbbjaaDoorOpRightL
namespace Go.Proofs.YtlbgbpgjccbbjaaDoor.Op
open Go.RowKit Go.Maps
set_option linter.unusedVariables false
set_option maxRecDepth 100000 in
set_option maxHeartbeats 1000000 in
theorem rfloat_any (c : Int) (w : World) :
    Calls Tryd.prog 19 #[.int .i64 c] w fun e w' => e = .returned (.bool (floatB c)) ∧ w = w' := by
  go_enter Tryd.func19, Tryd.ntmps19
  go_wp2_with fail
  all_goals
    go_ret
    refine ⟨?_, rfl⟩
    refine congrArg (fun b => Ending.returned (.bool b)) ?_
    rw [Bool.eq_iff_iff]
    simp [floatB, floatR]
    try omega
theorem rword_any (n : Int) (w : World) (b : Bool) (hb : wordB n = b) :
    Calls Tryd.prog 39 #[.int .i64 n] w fun e w' => e = .returned (.bool b) ∧ w = w' := by
  have HB := Lib.hid hb
  clear hb
  go_enter Tryd.func39, Tryd.ntmps39
  go_wp2_with fail
  all_goals
    go_ret
    refine ⟨?_, rfl⟩
    refine congrArg (fun b => Ending.returned (.bool b)) ?_
    rw [← HB.out, Bool.eq_iff_iff]
    unfold wordB
    simp
    try omega
set_option maxRecDepth 100000 in
set_option maxHeartbeats 2000000 in
theorem rright_none (op A : Int) (B : Int) (lv : Value) (w : World)  (hi : opInfo op = none) :
    Calls Tryd.prog 21 #[.agg #[.int .i64 op, .int .i64 A, .int .i64 B, lv]] w fun e w' => e = .returned (.bool (false)) ∧ Below w.heap.size w w' := by
  have B0 : Below w.heap.size w (w.alloc (.cells #[.int .i64 op, .int .i64 A, .int .i64 B, lv] 36)) := (Below.refl _ _).alloc (Nat.le_refl _) _
  have HI := Lib.hid hi
  clear hi
  go_enter Tryd.func21, Tryd.ntmps21
  go_wp2_with fail
  refine (rof_any op _ ⟨#[]⟩ ⟨#[]⟩ ⟨#[]⟩ 0 false (by rw [HI.out]; rfl) (by rw [HI.out]; rfl)).mono ?_
  rintro e w1 ⟨rfl, c1⟩
  have B1 := B0.trans (c1.mono B0.size)
  have s0 : w.heap.size < w1.heap.size := by have := c1.size; simp at this; omega
  have r0 : w1.cell? ⟨w.heap.size, 0, none⟩ = some (.int .i64 op) := cell_later c1 (by simp)
  have r1 : w1.cell? ⟨w.heap.size, 1, none⟩ = some (.int .i64 A) := cell_later c1 (by simp)
  have r2 : w1.cell? ⟨w.heap.size, 2, none⟩ = some (.int .i64 B) := cell_later c1 (by simp)
  have r3 : w1.cell? ⟨w.heap.size, 3, none⟩ = some (lv) := cell_later c1 (by simp)
  clear c1 B0
  go_wp2_with fail
  go_ret
  exact ⟨rfl, B1.alloc (by omega) _⟩
set_option maxRecDepth 100000 in
set_option maxHeartbeats 2000000 in
theorem rright_b (op A : Int) (B : Int) (lv : Value) (nm p r : ByteArray) (sh : Int) (w : World) (h1 : (B == 0) = false) (h2 : (sh == 5) = false) (h3 : (B != 0) = true) (h4 : (sh != 5) = true) (hi : opInfo op = some ⟨nm, sh, p, r⟩) :
    Calls Tryd.prog 21 #[.agg #[.int .i64 op, .int .i64 A, .int .i64 B, lv]] w fun e w' => e = .returned (.bool (false)) ∧ Below w.heap.size w w' := by
  have B0 : Below w.heap.size w (w.alloc (.cells #[.int .i64 op, .int .i64 A, .int .i64 B, lv] 36)) := (Below.refl _ _).alloc (Nat.le_refl _) _
  have HI := Lib.hid hi
  clear hi
  go_enter Tryd.func21, Tryd.ntmps21
  go_wp2_with fail
  refine (rof_any op _ nm p r sh true (by rw [HI.out]; rfl) (by rw [HI.out]; rfl)).mono ?_
  rintro e w1 ⟨rfl, c1⟩
  have B1 := B0.trans (c1.mono B0.size)
  have s0 : w.heap.size < w1.heap.size := by have := c1.size; simp at this; omega
  have r0 : w1.cell? ⟨w.heap.size, 0, none⟩ = some (.int .i64 op) := cell_later c1 (by simp)
  have r1 : w1.cell? ⟨w.heap.size, 1, none⟩ = some (.int .i64 A) := cell_later c1 (by simp)
  have r2 : w1.cell? ⟨w.heap.size, 2, none⟩ = some (.int .i64 B) := cell_later c1 (by simp)
  have r3 : w1.cell? ⟨w.heap.size, 3, none⟩ = some (lv) := cell_later c1 (by simp)
  clear c1 B0
  go_wp2_with fail
  go_ret
  exact ⟨rfl, B1.alloc (by omega) _⟩
set_option maxRecDepth 100000 in
set_option maxHeartbeats 2000000 in
theorem rright_l0 (op A : Int) (nm p r : ByteArray) (sh : Int) (lb lo len cp : Nat) (w : World) (h2 : (sh == 3) = false) (h4 : (sh != 3) = true) (h5 : 0 < len) (hi : opInfo op = some ⟨nm, sh, p, r⟩) :
    Calls Tryd.prog 21 #[.agg #[.int .i64 op, .int .i64 A, .int .i64 0, .slice (some ⟨lb, lo, none⟩) len cp]] w fun e w' => e = .returned (.bool (false)) ∧ Below w.heap.size w w' := by
  have B0 : Below w.heap.size w (w.alloc (.cells #[.int .i64 op, .int .i64 A, .int .i64 0, .slice (some ⟨lb, lo, none⟩) len cp] 36)) := (Below.refl _ _).alloc (Nat.le_refl _) _
  have HI := Lib.hid hi
  clear hi
  go_enter Tryd.func21, Tryd.ntmps21
  go_wp2_with fail
  refine (rof_any op _ nm p r sh true (by rw [HI.out]; rfl) (by rw [HI.out]; rfl)).mono ?_
  rintro e w1 ⟨rfl, c1⟩
  have B1 := B0.trans (c1.mono B0.size)
  have s0 : w.heap.size < w1.heap.size := by have := c1.size; simp at this; omega
  have r0 : w1.cell? ⟨w.heap.size, 0, none⟩ = some (.int .i64 op) := cell_later c1 (by simp)
  have r1 : w1.cell? ⟨w.heap.size, 1, none⟩ = some (.int .i64 A) := cell_later c1 (by simp)
  have r2 : w1.cell? ⟨w.heap.size, 2, none⟩ = some (.int .i64 0) := cell_later c1 (by simp)
  have r3 : w1.cell? ⟨w.heap.size, 3, none⟩ = some (.slice (some ⟨lb, lo, none⟩) len cp) := cell_later c1 (by simp)
  clear c1 B0
  go_wp2_with fail
  go_ret
  exact ⟨rfl, B1.alloc (by omega) _⟩
set_option maxRecDepth 100000 in
set_option maxHeartbeats 2000000 in
theorem rright_l5 (op A : Int) (B : Int) (nm p r : ByteArray) (lb lo len cp : Nat) (w : World) (h1 : (B == 0) = false) (h3 : (B != 0) = true) (h5 : 0 < len) (hi : opInfo op = some ⟨nm, 5, p, r⟩) :
    Calls Tryd.prog 21 #[.agg #[.int .i64 op, .int .i64 A, .int .i64 B, .slice (some ⟨lb, lo, none⟩) len cp]] w fun e w' => e = .returned (.bool (false)) ∧ Below w.heap.size w w' := by
  have B0 : Below w.heap.size w (w.alloc (.cells #[.int .i64 op, .int .i64 A, .int .i64 B, .slice (some ⟨lb, lo, none⟩) len cp] 36)) := (Below.refl _ _).alloc (Nat.le_refl _) _
  have HI := Lib.hid hi
  clear hi
  go_enter Tryd.func21, Tryd.ntmps21
  go_wp2_with fail
  refine (rof_any op _ nm p r 5 true (by rw [HI.out]; rfl) (by rw [HI.out]; rfl)).mono ?_
  rintro e w1 ⟨rfl, c1⟩
  have B1 := B0.trans (c1.mono B0.size)
  have s0 : w.heap.size < w1.heap.size := by have := c1.size; simp at this; omega
  have r0 : w1.cell? ⟨w.heap.size, 0, none⟩ = some (.int .i64 op) := cell_later c1 (by simp)
  have r1 : w1.cell? ⟨w.heap.size, 1, none⟩ = some (.int .i64 A) := cell_later c1 (by simp)
  have r2 : w1.cell? ⟨w.heap.size, 2, none⟩ = some (.int .i64 B) := cell_later c1 (by simp)
  have r3 : w1.cell? ⟨w.heap.size, 3, none⟩ = some (.slice (some ⟨lb, lo, none⟩) len cp) := cell_later c1 (by simp)
  clear c1 B0
  go_wp2_with fail
  go_ret
  exact ⟨rfl, B1.alloc (by omega) _⟩
set_option maxRecDepth 100000 in
set_option maxHeartbeats 2000000 in
theorem rright_s0 (op A : Int) (nm p r : ByteArray) (la : Option Addr) (cp : Nat) (w : World)  (hi : opInfo op = some ⟨nm, 0, p, r⟩) :
    Calls Tryd.prog 21 #[.agg #[.int .i64 op, .int .i64 A, .int .i64 0, .slice la 0 cp]] w fun e w' => e = .returned (.bool (A == 0)) ∧ Below w.heap.size w w' := by
  have B0 : Below w.heap.size w (w.alloc (.cells #[.int .i64 op, .int .i64 A, .int .i64 0, .slice la 0 cp] 36)) := (Below.refl _ _).alloc (Nat.le_refl _) _
  have HI := Lib.hid hi
  clear hi
  go_enter Tryd.func21, Tryd.ntmps21
  go_wp2_with fail
  refine (rof_any op _ nm p r 0 true (by rw [HI.out]; rfl) (by rw [HI.out]; rfl)).mono ?_
  rintro e w1 ⟨rfl, c1⟩
  have B1 := B0.trans (c1.mono B0.size)
  have s0 : w.heap.size < w1.heap.size := by have := c1.size; simp at this; omega
  have r0 : w1.cell? ⟨w.heap.size, 0, none⟩ = some (.int .i64 op) := cell_later c1 (by simp)
  have r1 : w1.cell? ⟨w.heap.size, 1, none⟩ = some (.int .i64 A) := cell_later c1 (by simp)
  have r2 : w1.cell? ⟨w.heap.size, 2, none⟩ = some (.int .i64 0) := cell_later c1 (by simp)
  have r3 : w1.cell? ⟨w.heap.size, 3, none⟩ = some (.slice la 0 cp) := cell_later c1 (by simp)
  clear c1 B0
  go_wp2_with fail
  go_ret
  exact ⟨rfl, B1.alloc (by omega) _⟩
set_option maxRecDepth 100000 in
set_option maxHeartbeats 2000000 in
theorem rright_s6 (op A : Int) (nm p r : ByteArray) (la : Option Addr) (cp : Nat) (w : World)  (hi : opInfo op = some ⟨nm, 6, p, r⟩) :
    Calls Tryd.prog 21 #[.agg #[.int .i64 op, .int .i64 A, .int .i64 0, .slice la 0 cp]] w fun e w' => e = .returned (.bool (A == 0)) ∧ Below w.heap.size w w' := by
  have B0 : Below w.heap.size w (w.alloc (.cells #[.int .i64 op, .int .i64 A, .int .i64 0, .slice la 0 cp] 36)) := (Below.refl _ _).alloc (Nat.le_refl _) _
  have HI := Lib.hid hi
  clear hi
  go_enter Tryd.func21, Tryd.ntmps21
  go_wp2_with fail
  refine (rof_any op _ nm p r 6 true (by rw [HI.out]; rfl) (by rw [HI.out]; rfl)).mono ?_
  rintro e w1 ⟨rfl, c1⟩
  have B1 := B0.trans (c1.mono B0.size)
  have s0 : w.heap.size < w1.heap.size := by have := c1.size; simp at this; omega
  have r0 : w1.cell? ⟨w.heap.size, 0, none⟩ = some (.int .i64 op) := cell_later c1 (by simp)
  have r1 : w1.cell? ⟨w.heap.size, 1, none⟩ = some (.int .i64 A) := cell_later c1 (by simp)
  have r2 : w1.cell? ⟨w.heap.size, 2, none⟩ = some (.int .i64 0) := cell_later c1 (by simp)
  have r3 : w1.cell? ⟨w.heap.size, 3, none⟩ = some (.slice la 0 cp) := cell_later c1 (by simp)
  clear c1 B0
  go_wp2_with fail
  go_ret
  exact ⟨rfl, B1.alloc (by omega) _⟩
set_option maxRecDepth 100000 in
set_option maxHeartbeats 2000000 in
theorem rright_s1 (op A : Int) (nm p r : ByteArray) (la : Option Addr) (cp : Nat) (w : World)  (hi : opInfo op = some ⟨nm, 1, p, r⟩) :
    Calls Tryd.prog 21 #[.agg #[.int .i64 op, .int .i64 A, .int .i64 0, .slice la 0 cp]] w fun e w' => e = .returned (.bool (A == 64 || A == 127 || A == 126)) ∧ Below w.heap.size w w' := by
  have B0 : Below w.heap.size w (w.alloc (.cells #[.int .i64 op, .int .i64 A, .int .i64 0, .slice la 0 cp] 36)) := (Below.refl _ _).alloc (Nat.le_refl _) _
  have HI := Lib.hid hi
  clear hi
  go_enter Tryd.func21, Tryd.ntmps21
  go_wp2_with fail
  refine (rof_any op _ nm p r 1 true (by rw [HI.out]; rfl) (by rw [HI.out]; rfl)).mono ?_
  rintro e w1 ⟨rfl, c1⟩
  have B1 := B0.trans (c1.mono B0.size)
  have s0 : w.heap.size < w1.heap.size := by have := c1.size; simp at this; omega
  have r0 : w1.cell? ⟨w.heap.size, 0, none⟩ = some (.int .i64 op) := cell_later c1 (by simp)
  have r1 : w1.cell? ⟨w.heap.size, 1, none⟩ = some (.int .i64 A) := cell_later c1 (by simp)
  have r2 : w1.cell? ⟨w.heap.size, 2, none⟩ = some (.int .i64 0) := cell_later c1 (by simp)
  have r3 : w1.cell? ⟨w.heap.size, 3, none⟩ = some (.slice la 0 cp) := cell_later c1 (by simp)
  clear c1 B0
  go_wp2_with fail
  all_goals
    go_ret
    refine ⟨?_, B1.alloc (by omega) _⟩
    refine congrArg (fun b => Ending.returned (.bool b)) ?_
    rw [Bool.eq_iff_iff]
    simp
    try omega
set_option maxRecDepth 100000 in
set_option maxHeartbeats 2000000 in
theorem rright_s2 (op A : Int) (nm p r : ByteArray) (la : Option Addr) (cp : Nat) (b : Bool) (w : World) (hw : wordB A = b) (hi : opInfo op = some ⟨nm, 2, p, r⟩) :
    Calls Tryd.prog 21 #[.agg #[.int .i64 op, .int .i64 A, .int .i64 0, .slice la 0 cp]] w fun e w' => e = .returned (.bool (b)) ∧ Below w.heap.size w w' := by
  have B0 : Below w.heap.size w (w.alloc (.cells #[.int .i64 op, .int .i64 A, .int .i64 0, .slice la 0 cp] 36)) := (Below.refl _ _).alloc (Nat.le_refl _) _
  have HI := Lib.hid hi
  clear hi
  go_enter Tryd.func21, Tryd.ntmps21
  go_wp2_with fail
  refine (rof_any op _ nm p r 2 true (by rw [HI.out]; rfl) (by rw [HI.out]; rfl)).mono ?_
  rintro e w1 ⟨rfl, c1⟩
  have B1 := B0.trans (c1.mono B0.size)
  have s0 : w.heap.size < w1.heap.size := by have := c1.size; simp at this; omega
  have r0 : w1.cell? ⟨w.heap.size, 0, none⟩ = some (.int .i64 op) := cell_later c1 (by simp)
  have r1 : w1.cell? ⟨w.heap.size, 1, none⟩ = some (.int .i64 A) := cell_later c1 (by simp)
  have r2 : w1.cell? ⟨w.heap.size, 2, none⟩ = some (.int .i64 0) := cell_later c1 (by simp)
  have r3 : w1.cell? ⟨w.heap.size, 3, none⟩ = some (.slice la 0 cp) := cell_later c1 (by simp)
  clear c1 B0
  have HW := Lib.hid hw
  clear hw
  go_wp2_with fail
  refine (rword_any A _ b HW.out).mono ?_
  rintro e w2 ⟨rfl, rfl⟩
  go_wp2_with fail
  go_ret
  exact ⟨rfl, B1.alloc (by omega) _⟩
set_option maxRecDepth 100000 in
set_option maxHeartbeats 2000000 in
theorem rright_s4 (op A : Int) (nm p r : ByteArray) (la : Option Addr) (cp : Nat) (b : Bool) (w : World) (hw : wordB A = b) (hi : opInfo op = some ⟨nm, 4, p, r⟩) :
    Calls Tryd.prog 21 #[.agg #[.int .i64 op, .int .i64 A, .int .i64 0, .slice la 0 cp]] w fun e w' => e = .returned (.bool (b)) ∧ Below w.heap.size w w' := by
  have B0 : Below w.heap.size w (w.alloc (.cells #[.int .i64 op, .int .i64 A, .int .i64 0, .slice la 0 cp] 36)) := (Below.refl _ _).alloc (Nat.le_refl _) _
  have HI := Lib.hid hi
  clear hi
  go_enter Tryd.func21, Tryd.ntmps21
  go_wp2_with fail
  refine (rof_any op _ nm p r 4 true (by rw [HI.out]; rfl) (by rw [HI.out]; rfl)).mono ?_
  rintro e w1 ⟨rfl, c1⟩
  have B1 := B0.trans (c1.mono B0.size)
  have s0 : w.heap.size < w1.heap.size := by have := c1.size; simp at this; omega
  have r0 : w1.cell? ⟨w.heap.size, 0, none⟩ = some (.int .i64 op) := cell_later c1 (by simp)
  have r1 : w1.cell? ⟨w.heap.size, 1, none⟩ = some (.int .i64 A) := cell_later c1 (by simp)
  have r2 : w1.cell? ⟨w.heap.size, 2, none⟩ = some (.int .i64 0) := cell_later c1 (by simp)
  have r3 : w1.cell? ⟨w.heap.size, 3, none⟩ = some (.slice la 0 cp) := cell_later c1 (by simp)
  clear c1 B0
  have HW := Lib.hid hw
  clear hw
  go_wp2_with fail
  refine (rword_any A _ b HW.out).mono ?_
  rintro e w2 ⟨rfl, rfl⟩
  go_wp2_with fail
  go_ret
  exact ⟨rfl, B1.alloc (by omega) _⟩
set_option maxRecDepth 100000 in
set_option maxHeartbeats 2000000 in
theorem rright_s5a (op A : Int) (nm p r : ByteArray) (la : Option Addr) (cp : Nat) (b c : Bool) (w : World) (hw : wordB A = b) (hv : wordB 0 = c) (hi : opInfo op = some ⟨nm, 5, p, r⟩) :
    Calls Tryd.prog 21 #[.agg #[.int .i64 op, .int .i64 A, .int .i64 0, .slice la 0 cp]] w fun e w' => e = .returned (.bool (b && c)) ∧ Below w.heap.size w w' := by
  have B0 : Below w.heap.size w (w.alloc (.cells #[.int .i64 op, .int .i64 A, .int .i64 0, .slice la 0 cp] 36)) := (Below.refl _ _).alloc (Nat.le_refl _) _
  have HI := Lib.hid hi
  clear hi
  go_enter Tryd.func21, Tryd.ntmps21
  go_wp2_with fail
  refine (rof_any op _ nm p r 5 true (by rw [HI.out]; rfl) (by rw [HI.out]; rfl)).mono ?_
  rintro e w1 ⟨rfl, c1⟩
  have B1 := B0.trans (c1.mono B0.size)
  have s0 : w.heap.size < w1.heap.size := by have := c1.size; simp at this; omega
  have r0 : w1.cell? ⟨w.heap.size, 0, none⟩ = some (.int .i64 op) := cell_later c1 (by simp)
  have r1 : w1.cell? ⟨w.heap.size, 1, none⟩ = some (.int .i64 A) := cell_later c1 (by simp)
  have r2 : w1.cell? ⟨w.heap.size, 2, none⟩ = some (.int .i64 0) := cell_later c1 (by simp)
  have r3 : w1.cell? ⟨w.heap.size, 3, none⟩ = some (.slice la 0 cp) := cell_later c1 (by simp)
  clear c1 B0
  have HW := Lib.hid hw
  have HV := Lib.hid hv
  clear hw hv
  go_wp2_with fail
  cases b
  · refine (rword_any A _ false HW.out).mono ?_
    rintro e w2 ⟨rfl, rfl⟩
    go_wp2_with fail
    go_ret
    exact ⟨rfl, B1.alloc (by omega) _⟩
  · refine (rword_any A _ true HW.out).mono ?_
    rintro e w2 ⟨rfl, rfl⟩
    go_wp2_with fail
    refine (rword_any 0 _ c HV.out).mono ?_
    rintro e w2 ⟨rfl, rfl⟩
    go_wp2_with fail
    go_ret
    exact ⟨rfl, B1.alloc (by omega) _⟩
set_option maxRecDepth 100000 in
set_option maxHeartbeats 2000000 in
theorem rright_s5b (op A : Int) (B : Int) (nm p r : ByteArray) (la : Option Addr) (cp : Nat) (b c : Bool) (w : World) (h1 : (B == 0) = false) (h3 : (B != 0) = true) (hw : wordB A = b) (hv : wordB B = c) (hi : opInfo op = some ⟨nm, 5, p, r⟩) :
    Calls Tryd.prog 21 #[.agg #[.int .i64 op, .int .i64 A, .int .i64 B, .slice la 0 cp]] w fun e w' => e = .returned (.bool (b && c)) ∧ Below w.heap.size w w' := by
  have B0 : Below w.heap.size w (w.alloc (.cells #[.int .i64 op, .int .i64 A, .int .i64 B, .slice la 0 cp] 36)) := (Below.refl _ _).alloc (Nat.le_refl _) _
  have HI := Lib.hid hi
  clear hi
  go_enter Tryd.func21, Tryd.ntmps21
  go_wp2_with fail
  refine (rof_any op _ nm p r 5 true (by rw [HI.out]; rfl) (by rw [HI.out]; rfl)).mono ?_
  rintro e w1 ⟨rfl, c1⟩
  have B1 := B0.trans (c1.mono B0.size)
  have s0 : w.heap.size < w1.heap.size := by have := c1.size; simp at this; omega
  have r0 : w1.cell? ⟨w.heap.size, 0, none⟩ = some (.int .i64 op) := cell_later c1 (by simp)
  have r1 : w1.cell? ⟨w.heap.size, 1, none⟩ = some (.int .i64 A) := cell_later c1 (by simp)
  have r2 : w1.cell? ⟨w.heap.size, 2, none⟩ = some (.int .i64 B) := cell_later c1 (by simp)
  have r3 : w1.cell? ⟨w.heap.size, 3, none⟩ = some (.slice la 0 cp) := cell_later c1 (by simp)
  clear c1 B0
  have HW := Lib.hid hw
  have HV := Lib.hid hv
  clear hw hv
  go_wp2_with fail
  cases b
  · refine (rword_any A _ false HW.out).mono ?_
    rintro e w2 ⟨rfl, rfl⟩
    go_wp2_with fail
    go_ret
    exact ⟨rfl, B1.alloc (by omega) _⟩
  · refine (rword_any A _ true HW.out).mono ?_
    rintro e w2 ⟨rfl, rfl⟩
    go_wp2_with fail
    refine (rword_any B _ c HV.out).mono ?_
    rintro e w2 ⟨rfl, rfl⟩
    go_wp2_with fail
    go_ret
    exact ⟨rfl, B1.alloc (by omega) _⟩
set_option maxRecDepth 100000 in
set_option maxHeartbeats 2000000 in
theorem rright_s7 (op A : Int) (nm p r : ByteArray) (la : Option Addr) (cp : Nat) (w : World)  (hi : opInfo op = some ⟨nm, 7, p, r⟩) :
    Calls Tryd.prog 21 #[.agg #[.int .i64 op, .int .i64 A, .int .i64 0, .slice la 0 cp]] w fun e w' => e = .returned (.bool (op == 66 || A == wrap32 A)) ∧ Below w.heap.size w w' := by
  have B0 : Below w.heap.size w (w.alloc (.cells #[.int .i64 op, .int .i64 A, .int .i64 0, .slice la 0 cp] 36)) := (Below.refl _ _).alloc (Nat.le_refl _) _
  have HI := Lib.hid hi
  clear hi
  go_enter Tryd.func21, Tryd.ntmps21
  go_wp2_with fail
  refine (rof_any op _ nm p r 7 true (by rw [HI.out]; rfl) (by rw [HI.out]; rfl)).mono ?_
  rintro e w1 ⟨rfl, c1⟩
  have B1 := B0.trans (c1.mono B0.size)
  have s0 : w.heap.size < w1.heap.size := by have := c1.size; simp at this; omega
  have r0 : w1.cell? ⟨w.heap.size, 0, none⟩ = some (.int .i64 op) := cell_later c1 (by simp)
  have r1 : w1.cell? ⟨w.heap.size, 1, none⟩ = some (.int .i64 A) := cell_later c1 (by simp)
  have r2 : w1.cell? ⟨w.heap.size, 2, none⟩ = some (.int .i64 0) := cell_later c1 (by simp)
  have r3 : w1.cell? ⟨w.heap.size, 3, none⟩ = some (.slice la 0 cp) := cell_later c1 (by simp)
  clear c1 B0
  go_wp2_with fail
  all_goals
    go_ret
    refine ⟨?_, B1.alloc (by omega) _⟩
    refine congrArg (fun b => Ending.returned (.bool b)) ?_
    rw [Bool.eq_iff_iff]
    unfold wrap32
    simp
    try omega
end Go.Proofs.YtlbgbpgjccbbjaaDoor.Op
