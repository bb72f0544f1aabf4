/-
  What package op's Right answers. No condition beyond what each theorem names.
-/
import Derived.Test.YtmfdabkmijbffaaGreatDoorOpWord
namespace Go.Proofs.YtmfdabkmijbffaaGreatDoor.Op
open Go.RowKit Go.Maps
set_option linter.unusedVariables false
/-- a slice of numbers in memory -/
def IntsAt (w : World) (v : Value) (zs : List Int) : Prop := (v = .slice none 0 0 ∧ zs = []) ∨ (∃ b off c, v = .slice (some ⟨b, off, none⟩) zs.length c ∧ b < w.heap.size ∧ ∀ j z, zs[j]? = some z → w.cell? ⟨b, off + j, none⟩ = some (.int .i64 z)) ∨ ∃ a c, v = .slice a 0 c ∧ zs = []
theorem intsAt_later {w w' : World} {v : Value} {zs : List Int} (h : IntsAt w v zs) (hb : Below w.heap.size w w') : IntsAt w' v zs := by
  rcases h with h | ⟨b, off, c, hv, hlt, hc⟩ | h
  · exact .inl h
  · exact .inr (.inl ⟨b, off, c, hv, Nat.lt_of_lt_of_le hlt hb.size, fun j z hz => cell_later hb (hc j z hz)⟩)
  · exact .inr (.inr h)
def tailB (sh op A B : Int) : Bool :=
  if sh = 0 ∨ sh = 6 then A == 0 else if sh = 1 then (A == 64 || A == 127 || A == 126) else if sh = 7 then (op == 66 || A == wrap32 A) else wordB A && wordB B
def rightI (i : Info) (op A B : Int) (zs : List Int) : Bool :=
  if B ≠ 0 ∧ i.shape ≠ 5 then false else if zs ≠ [] ∧ i.shape ≠ 3 then false else if 4096 < zs.length then false else if allWords zs then tailB i.shape op A B else false
/-- whether an instruction may be -/
def rightB (op A B : Int) (zs : List Int) : Bool := match opInfo op with
  | none => false
  | some i => rightI i op A B zs
theorem of_lit (code : Int) (w : World) (hE : OpEnv w) (hc : (Lit.int .i64 code).wf = true) (nm p r : ByteArray) (sh : Int) (b : Bool) (hi : (opInfo code).getD zeroI = ⟨nm, sh, p, r⟩) (hb : (opInfo code).isSome = b) :
    Calls Tryz.prog 34 #[.int .i64 code] w fun e w' => e = .returned (.tuple #[.agg #[.string nm, .int .i64 sh, .string p, .string r], .bool b]) ∧ Below w.heap.size w w' :=
  of_any code w hE hc _ b hi hb

set_option maxRecDepth 100000 in
set_option maxHeartbeats 2000000 in
theorem right_none (op A B : Int) (lv : Value) (w : World) (hE : OpEnv w) (hop : (Lit.int .i64 op).wf = true) (hi : opInfo op = none) :
    Calls Tryz.prog 71 #[.agg #[.int .i64 op, .int .i64 A, .int .i64 B, lv]] w fun e w' => e = .returned (.bool false) ∧ Below w.heap.size w w' := by
  have B0 : Below w.heap.size w (w.alloc (.cells #[.int .i64 op, .int .i64 A, .int .i64 B, lv] 33)) := (Below.refl _ _).alloc (Nat.le_refl _) _
  have HE := Lib.hid hE
  have HC := Lib.hid hop
  have HI := Lib.hid hi
  clear hE hop hi
  go_enter Tryz.func71, Tryz.ntmps71
  go_wp2_with fail
  refine (of_lit op _ (opEnv_later HE.out B0) HC.out ⟨#[]⟩ ⟨#[]⟩ ⟨#[]⟩ 0 false (by rw [HI.out]; rfl) (by rw [HI.out]; rfl)).mono ?_
  rintro e w1 ⟨rfl, c1⟩
  have B1 := B0.trans (c1.mono B0.size)
  have s0 : w.heap.size < w1.heap.size := by have := c1.size; simp at this; omega
  have r0 : w1.cell? ⟨w.heap.size, 0, none⟩ = some (.int .i64 op) := cell_later c1 (by simp)
  have r1 : w1.cell? ⟨w.heap.size, 1, none⟩ = some (.int .i64 A) := cell_later c1 (by simp)
  have r2 : w1.cell? ⟨w.heap.size, 2, none⟩ = some (.int .i64 B) := cell_later c1 (by simp)
  have r3 : w1.cell? ⟨w.heap.size, 3, none⟩ = some (lv) := cell_later c1 (by simp)
  clear c1 B0
  go_wp2_with fail
  go_ret
  exact ⟨rfl, B1.alloc (by omega) _⟩

set_option maxRecDepth 100000 in
set_option maxHeartbeats 2000000 in
theorem right_b (op A B : Int) (lv : Value) (nm p r : ByteArray) (sh : Int) (w : World) (h1 : (B == 0) = false) (h2 : (sh == 5) = false) (hE : OpEnv w) (hop : (Lit.int .i64 op).wf = true) (hi : opInfo op = some ⟨nm, sh, p, r⟩) :
    Calls Tryz.prog 71 #[.agg #[.int .i64 op, .int .i64 A, .int .i64 B, lv]] w fun e w' => e = .returned (.bool false) ∧ Below w.heap.size w w' := by
  have h3 : (B != 0) = true := by simp [bne, h1]
  have h4 : (sh != 5) = true := by simp [bne, h2]
  have B0 : Below w.heap.size w (w.alloc (.cells #[.int .i64 op, .int .i64 A, .int .i64 B, lv] 33)) := (Below.refl _ _).alloc (Nat.le_refl _) _
  have HE := Lib.hid hE
  have HC := Lib.hid hop
  have HI := Lib.hid hi
  clear hE hop hi
  go_enter Tryz.func71, Tryz.ntmps71
  go_wp2_with fail
  refine (of_lit op _ (opEnv_later HE.out B0) HC.out nm p r sh true (by rw [HI.out]; rfl) (by rw [HI.out]; rfl)).mono ?_
  rintro e w1 ⟨rfl, c1⟩
  have B1 := B0.trans (c1.mono B0.size)
  have s0 : w.heap.size < w1.heap.size := by have := c1.size; simp at this; omega
  have r0 : w1.cell? ⟨w.heap.size, 0, none⟩ = some (.int .i64 op) := cell_later c1 (by simp)
  have r1 : w1.cell? ⟨w.heap.size, 1, none⟩ = some (.int .i64 A) := cell_later c1 (by simp)
  have r2 : w1.cell? ⟨w.heap.size, 2, none⟩ = some (.int .i64 B) := cell_later c1 (by simp)
  have r3 : w1.cell? ⟨w.heap.size, 3, none⟩ = some (lv) := cell_later c1 (by simp)
  clear c1 B0
  go_wp2_with fail
  go_ret
  exact ⟨rfl, B1.alloc (by omega) _⟩

set_option maxRecDepth 100000 in
set_option maxHeartbeats 2000000 in
theorem right_l0 (op A B : Int) (nm p r : ByteArray) (sh : Int) (w : World) (lb lo len cp : Nat) (h1 : (B == 0) = true) (h2 : (sh == 3) = false) (h5 : 0 < len) (hE : OpEnv w) (hop : (Lit.int .i64 op).wf = true) (hi : opInfo op = some ⟨nm, sh, p, r⟩) :
    Calls Tryz.prog 71 #[.agg #[.int .i64 op, .int .i64 A, .int .i64 B, .slice (some ⟨lb, lo, none⟩) len cp]] w fun e w' => e = .returned (.bool false) ∧ Below w.heap.size w w' := by
  have h3 : (B != 0) = false := by simp [bne, h1]
  have h4 : (sh != 3) = true := by simp [bne, h2]
  have B0 : Below w.heap.size w (w.alloc (.cells #[.int .i64 op, .int .i64 A, .int .i64 B, .slice (some ⟨lb, lo, none⟩) len cp] 33)) := (Below.refl _ _).alloc (Nat.le_refl _) _
  have HE := Lib.hid hE
  have HC := Lib.hid hop
  have HI := Lib.hid hi
  clear hE hop hi
  go_enter Tryz.func71, Tryz.ntmps71
  go_wp2_with fail
  refine (of_lit op _ (opEnv_later HE.out B0) HC.out nm p r sh true (by rw [HI.out]; rfl) (by rw [HI.out]; rfl)).mono ?_
  rintro e w1 ⟨rfl, c1⟩
  have B1 := B0.trans (c1.mono B0.size)
  have s0 : w.heap.size < w1.heap.size := by have := c1.size; simp at this; omega
  have r0 : w1.cell? ⟨w.heap.size, 0, none⟩ = some (.int .i64 op) := cell_later c1 (by simp)
  have r1 : w1.cell? ⟨w.heap.size, 1, none⟩ = some (.int .i64 A) := cell_later c1 (by simp)
  have r2 : w1.cell? ⟨w.heap.size, 2, none⟩ = some (.int .i64 B) := cell_later c1 (by simp)
  have r3 : w1.cell? ⟨w.heap.size, 3, none⟩ = some (.slice (some ⟨lb, lo, none⟩) len cp) := cell_later c1 (by simp)
  clear c1 B0
  go_wp2_with fail
  go_ret
  exact ⟨rfl, B1.alloc (by omega) _⟩

set_option maxRecDepth 100000 in
set_option maxHeartbeats 2000000 in
theorem right_l5 (op A B : Int) (nm p r : ByteArray) (sh : Int) (w : World) (lb lo len cp : Nat) (h1 : (B == 0) = false) (h0 : (sh == 5) = true) (h2 : (sh == 3) = false) (h5 : 0 < len) (hE : OpEnv w) (hop : (Lit.int .i64 op).wf = true) (hi : opInfo op = some ⟨nm, sh, p, r⟩) :
    Calls Tryz.prog 71 #[.agg #[.int .i64 op, .int .i64 A, .int .i64 B, .slice (some ⟨lb, lo, none⟩) len cp]] w fun e w' => e = .returned (.bool false) ∧ Below w.heap.size w w' := by
  have h3 : (B != 0) = true := by simp [bne, h1]
  have h4 : (sh != 3) = true := by simp [bne, h2]
  have h6 : (sh != 5) = false := by simp [bne, h0]
  have B0 : Below w.heap.size w (w.alloc (.cells #[.int .i64 op, .int .i64 A, .int .i64 B, .slice (some ⟨lb, lo, none⟩) len cp] 33)) := (Below.refl _ _).alloc (Nat.le_refl _) _
  have HE := Lib.hid hE
  have HC := Lib.hid hop
  have HI := Lib.hid hi
  clear hE hop hi
  go_enter Tryz.func71, Tryz.ntmps71
  go_wp2_with fail
  refine (of_lit op _ (opEnv_later HE.out B0) HC.out nm p r sh true (by rw [HI.out]; rfl) (by rw [HI.out]; rfl)).mono ?_
  rintro e w1 ⟨rfl, c1⟩
  have B1 := B0.trans (c1.mono B0.size)
  have s0 : w.heap.size < w1.heap.size := by have := c1.size; simp at this; omega
  have r0 : w1.cell? ⟨w.heap.size, 0, none⟩ = some (.int .i64 op) := cell_later c1 (by simp)
  have r1 : w1.cell? ⟨w.heap.size, 1, none⟩ = some (.int .i64 A) := cell_later c1 (by simp)
  have r2 : w1.cell? ⟨w.heap.size, 2, none⟩ = some (.int .i64 B) := cell_later c1 (by simp)
  have r3 : w1.cell? ⟨w.heap.size, 3, none⟩ = some (.slice (some ⟨lb, lo, none⟩) len cp) := cell_later c1 (by simp)
  clear c1 B0
  go_wp2_with fail
  go_ret
  exact ⟨rfl, B1.alloc (by omega) _⟩

set_option maxRecDepth 100000 in
set_option maxHeartbeats 2000000 in
theorem right_long (op A B : Int) (nm p r : ByteArray) (w : World) (lb lo len cp : Nat) (h1 : (B == 0) = true) (h5 : 4096 < len) (hE : OpEnv w) (hop : (Lit.int .i64 op).wf = true) (hi : opInfo op = some ⟨nm, 3, p, r⟩) :
    Calls Tryz.prog 71 #[.agg #[.int .i64 op, .int .i64 A, .int .i64 B, .slice (some ⟨lb, lo, none⟩) len cp]] w fun e w' => e = .returned (.bool false) ∧ Below w.heap.size w w' := by
  have h3 : (B != 0) = false := by simp [bne, h1]
  have h7 : 0 < len := by omega
  have B0 : Below w.heap.size w (w.alloc (.cells #[.int .i64 op, .int .i64 A, .int .i64 B, .slice (some ⟨lb, lo, none⟩) len cp] 33)) := (Below.refl _ _).alloc (Nat.le_refl _) _
  have HE := Lib.hid hE
  have HC := Lib.hid hop
  have HI := Lib.hid hi
  clear hE hop hi
  go_enter Tryz.func71, Tryz.ntmps71
  go_wp2_with fail
  refine (of_lit op _ (opEnv_later HE.out B0) HC.out nm p r 3 true (by rw [HI.out]; rfl) (by rw [HI.out]; rfl)).mono ?_
  rintro e w1 ⟨rfl, c1⟩
  have B1 := B0.trans (c1.mono B0.size)
  have s0 : w.heap.size < w1.heap.size := by have := c1.size; simp at this; omega
  have r0 : w1.cell? ⟨w.heap.size, 0, none⟩ = some (.int .i64 op) := cell_later c1 (by simp)
  have r1 : w1.cell? ⟨w.heap.size, 1, none⟩ = some (.int .i64 A) := cell_later c1 (by simp)
  have r2 : w1.cell? ⟨w.heap.size, 2, none⟩ = some (.int .i64 B) := cell_later c1 (by simp)
  have r3 : w1.cell? ⟨w.heap.size, 3, none⟩ = some (.slice (some ⟨lb, lo, none⟩) len cp) := cell_later c1 (by simp)
  clear c1 B0
  go_wp2_with fail
  go_ret
  exact ⟨rfl, B1.alloc (by omega) _⟩

set_option maxRecDepth 100000 in
set_option maxHeartbeats 2000000 in
theorem right_s0 (op A : Int) (nm p r : ByteArray) (w : World) (la : Option Addr) (cp : Nat) (hE : OpEnv w) (hop : (Lit.int .i64 op).wf = true) (hi : opInfo op = some ⟨nm, 0, p, r⟩) :
    Calls Tryz.prog 71 #[.agg #[.int .i64 op, .int .i64 A, .int .i64 0, .slice la 0 cp]] w fun e w' => e = .returned (.bool (A == 0)) ∧ Below w.heap.size w w' := by
  have B0 : Below w.heap.size w (w.alloc (.cells #[.int .i64 op, .int .i64 A, .int .i64 0, .slice la 0 cp] 33)) := (Below.refl _ _).alloc (Nat.le_refl _) _
  have HE := Lib.hid hE
  have HC := Lib.hid hop
  have HI := Lib.hid hi
  clear hE hop hi
  go_enter Tryz.func71, Tryz.ntmps71
  go_wp2_with fail
  refine (of_lit op _ (opEnv_later HE.out B0) HC.out nm p r 0 true (by rw [HI.out]; rfl) (by rw [HI.out]; rfl)).mono ?_
  rintro e w1 ⟨rfl, c1⟩
  have B1 := B0.trans (c1.mono B0.size)
  have s0 : w.heap.size < w1.heap.size := by have := c1.size; simp at this; omega
  have r0 : w1.cell? ⟨w.heap.size, 0, none⟩ = some (.int .i64 op) := cell_later c1 (by simp)
  have r1 : w1.cell? ⟨w.heap.size, 1, none⟩ = some (.int .i64 A) := cell_later c1 (by simp)
  have r2 : w1.cell? ⟨w.heap.size, 2, none⟩ = some (.int .i64 0) := cell_later c1 (by simp)
  have r3 : w1.cell? ⟨w.heap.size, 3, none⟩ = some (.slice la 0 cp) := cell_later c1 (by simp)
  clear c1 B0
  go_wp2_with fail
  refine wp_loop_rounds 1 ?_
  rw [rounds_succ]
  go_wp2_with fail
  go_ret
  exact ⟨rfl, B1.alloc (by omega) _⟩

set_option maxRecDepth 100000 in
set_option maxHeartbeats 2000000 in
theorem right_s6 (op A : Int) (nm p r : ByteArray) (w : World) (la : Option Addr) (cp : Nat) (hE : OpEnv w) (hop : (Lit.int .i64 op).wf = true) (hi : opInfo op = some ⟨nm, 6, p, r⟩) :
    Calls Tryz.prog 71 #[.agg #[.int .i64 op, .int .i64 A, .int .i64 0, .slice la 0 cp]] w fun e w' => e = .returned (.bool (A == 0)) ∧ Below w.heap.size w w' := by
  have B0 : Below w.heap.size w (w.alloc (.cells #[.int .i64 op, .int .i64 A, .int .i64 0, .slice la 0 cp] 33)) := (Below.refl _ _).alloc (Nat.le_refl _) _
  have HE := Lib.hid hE
  have HC := Lib.hid hop
  have HI := Lib.hid hi
  clear hE hop hi
  go_enter Tryz.func71, Tryz.ntmps71
  go_wp2_with fail
  refine (of_lit op _ (opEnv_later HE.out B0) HC.out nm p r 6 true (by rw [HI.out]; rfl) (by rw [HI.out]; rfl)).mono ?_
  rintro e w1 ⟨rfl, c1⟩
  have B1 := B0.trans (c1.mono B0.size)
  have s0 : w.heap.size < w1.heap.size := by have := c1.size; simp at this; omega
  have r0 : w1.cell? ⟨w.heap.size, 0, none⟩ = some (.int .i64 op) := cell_later c1 (by simp)
  have r1 : w1.cell? ⟨w.heap.size, 1, none⟩ = some (.int .i64 A) := cell_later c1 (by simp)
  have r2 : w1.cell? ⟨w.heap.size, 2, none⟩ = some (.int .i64 0) := cell_later c1 (by simp)
  have r3 : w1.cell? ⟨w.heap.size, 3, none⟩ = some (.slice la 0 cp) := cell_later c1 (by simp)
  clear c1 B0
  go_wp2_with fail
  refine wp_loop_rounds 1 ?_
  rw [rounds_succ]
  go_wp2_with fail
  go_ret
  exact ⟨rfl, B1.alloc (by omega) _⟩

set_option maxRecDepth 100000 in
set_option maxHeartbeats 2000000 in
theorem right_s1a (op A : Int) (nm p r : ByteArray) (w : World) (la : Option Addr) (cp : Nat) (h1 : (A == 64) = true) (hE : OpEnv w) (hop : (Lit.int .i64 op).wf = true) (hi : opInfo op = some ⟨nm, 1, p, r⟩) :
    Calls Tryz.prog 71 #[.agg #[.int .i64 op, .int .i64 A, .int .i64 0, .slice la 0 cp]] w fun e w' => e = .returned (.bool true) ∧ Below w.heap.size w w' := by
  have B0 : Below w.heap.size w (w.alloc (.cells #[.int .i64 op, .int .i64 A, .int .i64 0, .slice la 0 cp] 33)) := (Below.refl _ _).alloc (Nat.le_refl _) _
  have HE := Lib.hid hE
  have HC := Lib.hid hop
  have HI := Lib.hid hi
  clear hE hop hi
  go_enter Tryz.func71, Tryz.ntmps71
  go_wp2_with fail
  refine (of_lit op _ (opEnv_later HE.out B0) HC.out nm p r 1 true (by rw [HI.out]; rfl) (by rw [HI.out]; rfl)).mono ?_
  rintro e w1 ⟨rfl, c1⟩
  have B1 := B0.trans (c1.mono B0.size)
  have s0 : w.heap.size < w1.heap.size := by have := c1.size; simp at this; omega
  have r0 : w1.cell? ⟨w.heap.size, 0, none⟩ = some (.int .i64 op) := cell_later c1 (by simp)
  have r1 : w1.cell? ⟨w.heap.size, 1, none⟩ = some (.int .i64 A) := cell_later c1 (by simp)
  have r2 : w1.cell? ⟨w.heap.size, 2, none⟩ = some (.int .i64 0) := cell_later c1 (by simp)
  have r3 : w1.cell? ⟨w.heap.size, 3, none⟩ = some (.slice la 0 cp) := cell_later c1 (by simp)
  clear c1 B0
  go_wp2_with fail
  refine wp_loop_rounds 1 ?_
  rw [rounds_succ]
  go_wp2_with fail
  go_ret
  exact ⟨rfl, B1.alloc (by omega) _⟩

set_option maxRecDepth 100000 in
set_option maxHeartbeats 2000000 in
theorem right_s1b (op A : Int) (nm p r : ByteArray) (w : World) (la : Option Addr) (cp : Nat) (h1 : (A == 64) = false) (h2 : (A == 127) = true) (hE : OpEnv w) (hop : (Lit.int .i64 op).wf = true) (hi : opInfo op = some ⟨nm, 1, p, r⟩) :
    Calls Tryz.prog 71 #[.agg #[.int .i64 op, .int .i64 A, .int .i64 0, .slice la 0 cp]] w fun e w' => e = .returned (.bool true) ∧ Below w.heap.size w w' := by
  have B0 : Below w.heap.size w (w.alloc (.cells #[.int .i64 op, .int .i64 A, .int .i64 0, .slice la 0 cp] 33)) := (Below.refl _ _).alloc (Nat.le_refl _) _
  have HE := Lib.hid hE
  have HC := Lib.hid hop
  have HI := Lib.hid hi
  clear hE hop hi
  go_enter Tryz.func71, Tryz.ntmps71
  go_wp2_with fail
  refine (of_lit op _ (opEnv_later HE.out B0) HC.out nm p r 1 true (by rw [HI.out]; rfl) (by rw [HI.out]; rfl)).mono ?_
  rintro e w1 ⟨rfl, c1⟩
  have B1 := B0.trans (c1.mono B0.size)
  have s0 : w.heap.size < w1.heap.size := by have := c1.size; simp at this; omega
  have r0 : w1.cell? ⟨w.heap.size, 0, none⟩ = some (.int .i64 op) := cell_later c1 (by simp)
  have r1 : w1.cell? ⟨w.heap.size, 1, none⟩ = some (.int .i64 A) := cell_later c1 (by simp)
  have r2 : w1.cell? ⟨w.heap.size, 2, none⟩ = some (.int .i64 0) := cell_later c1 (by simp)
  have r3 : w1.cell? ⟨w.heap.size, 3, none⟩ = some (.slice la 0 cp) := cell_later c1 (by simp)
  clear c1 B0
  go_wp2_with fail
  refine wp_loop_rounds 1 ?_
  rw [rounds_succ]
  go_wp2_with fail
  go_ret
  exact ⟨rfl, B1.alloc (by omega) _⟩

set_option maxRecDepth 100000 in
set_option maxHeartbeats 2000000 in
theorem right_s1c (op A : Int) (nm p r : ByteArray) (w : World) (la : Option Addr) (cp : Nat) (h1 : (A == 64) = false) (h2 : (A == 127) = false) (hE : OpEnv w) (hop : (Lit.int .i64 op).wf = true) (hi : opInfo op = some ⟨nm, 1, p, r⟩) :
    Calls Tryz.prog 71 #[.agg #[.int .i64 op, .int .i64 A, .int .i64 0, .slice la 0 cp]] w fun e w' => e = .returned (.bool (A == 126)) ∧ Below w.heap.size w w' := by
  have B0 : Below w.heap.size w (w.alloc (.cells #[.int .i64 op, .int .i64 A, .int .i64 0, .slice la 0 cp] 33)) := (Below.refl _ _).alloc (Nat.le_refl _) _
  have HE := Lib.hid hE
  have HC := Lib.hid hop
  have HI := Lib.hid hi
  clear hE hop hi
  go_enter Tryz.func71, Tryz.ntmps71
  go_wp2_with fail
  refine (of_lit op _ (opEnv_later HE.out B0) HC.out nm p r 1 true (by rw [HI.out]; rfl) (by rw [HI.out]; rfl)).mono ?_
  rintro e w1 ⟨rfl, c1⟩
  have B1 := B0.trans (c1.mono B0.size)
  have s0 : w.heap.size < w1.heap.size := by have := c1.size; simp at this; omega
  have r0 : w1.cell? ⟨w.heap.size, 0, none⟩ = some (.int .i64 op) := cell_later c1 (by simp)
  have r1 : w1.cell? ⟨w.heap.size, 1, none⟩ = some (.int .i64 A) := cell_later c1 (by simp)
  have r2 : w1.cell? ⟨w.heap.size, 2, none⟩ = some (.int .i64 0) := cell_later c1 (by simp)
  have r3 : w1.cell? ⟨w.heap.size, 3, none⟩ = some (.slice la 0 cp) := cell_later c1 (by simp)
  clear c1 B0
  go_wp2_with fail
  refine wp_loop_rounds 1 ?_
  rw [rounds_succ]
  go_wp2_with fail
  go_ret
  exact ⟨rfl, B1.alloc (by omega) _⟩

set_option maxRecDepth 100000 in
set_option maxHeartbeats 2000000 in
theorem right_s7a (op A : Int) (nm p r : ByteArray) (w : World) (la : Option Addr) (cp : Nat) (h1 : (op == 66) = true) (hE : OpEnv w) (hop : (Lit.int .i64 op).wf = true) (hi : opInfo op = some ⟨nm, 7, p, r⟩) :
    Calls Tryz.prog 71 #[.agg #[.int .i64 op, .int .i64 A, .int .i64 0, .slice la 0 cp]] w fun e w' => e = .returned (.bool true) ∧ Below w.heap.size w w' := by
  have B0 : Below w.heap.size w (w.alloc (.cells #[.int .i64 op, .int .i64 A, .int .i64 0, .slice la 0 cp] 33)) := (Below.refl _ _).alloc (Nat.le_refl _) _
  have HE := Lib.hid hE
  have HC := Lib.hid hop
  have HI := Lib.hid hi
  clear hE hop hi
  go_enter Tryz.func71, Tryz.ntmps71
  go_wp2_with fail
  refine (of_lit op _ (opEnv_later HE.out B0) HC.out nm p r 7 true (by rw [HI.out]; rfl) (by rw [HI.out]; rfl)).mono ?_
  rintro e w1 ⟨rfl, c1⟩
  have B1 := B0.trans (c1.mono B0.size)
  have s0 : w.heap.size < w1.heap.size := by have := c1.size; simp at this; omega
  have r0 : w1.cell? ⟨w.heap.size, 0, none⟩ = some (.int .i64 op) := cell_later c1 (by simp)
  have r1 : w1.cell? ⟨w.heap.size, 1, none⟩ = some (.int .i64 A) := cell_later c1 (by simp)
  have r2 : w1.cell? ⟨w.heap.size, 2, none⟩ = some (.int .i64 0) := cell_later c1 (by simp)
  have r3 : w1.cell? ⟨w.heap.size, 3, none⟩ = some (.slice la 0 cp) := cell_later c1 (by simp)
  clear c1 B0
  go_wp2_with fail
  refine wp_loop_rounds 1 ?_
  rw [rounds_succ]
  go_wp2_with fail
  go_ret
  exact ⟨rfl, B1.alloc (by omega) _⟩

set_option maxRecDepth 100000 in
set_option maxHeartbeats 2000000 in
theorem right_s7b (op A : Int) (nm p r : ByteArray) (w : World) (la : Option Addr) (cp : Nat) (h1 : (op == 66) = false) (hE : OpEnv w) (hop : (Lit.int .i64 op).wf = true) (hi : opInfo op = some ⟨nm, 7, p, r⟩) :
    Calls Tryz.prog 71 #[.agg #[.int .i64 op, .int .i64 A, .int .i64 0, .slice la 0 cp]] w fun e w' => e = .returned (.bool (A == wrap32 A)) ∧ Below w.heap.size w w' := by
  have h2 : wrap64 (wrap32 A) = wrap32 A := by have h9 : -2147483648 ≤ wrap32 A ∧ wrap32 A < 2147483648 := by unfold wrap32; omega
                                               generalize wrap32 A = z at *; unfold wrap64; omega
  have B0 : Below w.heap.size w (w.alloc (.cells #[.int .i64 op, .int .i64 A, .int .i64 0, .slice la 0 cp] 33)) := (Below.refl _ _).alloc (Nat.le_refl _) _
  have HE := Lib.hid hE
  have HC := Lib.hid hop
  have HI := Lib.hid hi
  clear hE hop hi
  go_enter Tryz.func71, Tryz.ntmps71
  go_wp2_with fail
  refine (of_lit op _ (opEnv_later HE.out B0) HC.out nm p r 7 true (by rw [HI.out]; rfl) (by rw [HI.out]; rfl)).mono ?_
  rintro e w1 ⟨rfl, c1⟩
  have B1 := B0.trans (c1.mono B0.size)
  have s0 : w.heap.size < w1.heap.size := by have := c1.size; simp at this; omega
  have r0 : w1.cell? ⟨w.heap.size, 0, none⟩ = some (.int .i64 op) := cell_later c1 (by simp)
  have r1 : w1.cell? ⟨w.heap.size, 1, none⟩ = some (.int .i64 A) := cell_later c1 (by simp)
  have r2 : w1.cell? ⟨w.heap.size, 2, none⟩ = some (.int .i64 0) := cell_later c1 (by simp)
  have r3 : w1.cell? ⟨w.heap.size, 3, none⟩ = some (.slice la 0 cp) := cell_later c1 (by simp)
  clear c1 B0
  go_wp2_with fail
  refine wp_loop_rounds 1 ?_
  rw [rounds_succ]
  go_wp2_with fail
  go_ret
  exact ⟨rfl, B1.alloc (by omega) _⟩

set_option maxRecDepth 100000 in
set_option maxHeartbeats 2000000 in
theorem right_s2 (op A : Int) (nm p r : ByteArray) (w : World) (la : Option Addr) (cp : Nat) (hE : OpEnv w) (hop : (Lit.int .i64 op).wf = true) (hi : opInfo op = some ⟨nm, 2, p, r⟩) :
    Calls Tryz.prog 71 #[.agg #[.int .i64 op, .int .i64 A, .int .i64 0, .slice la 0 cp]] w fun e w' => e = .returned (.bool (allWords [A, 0])) ∧ Below w.heap.size w w' := by
  have B0 : Below w.heap.size w (w.alloc (.cells #[.int .i64 op, .int .i64 A, .int .i64 0, .slice la 0 cp] 33)) := (Below.refl _ _).alloc (Nat.le_refl _) _
  have HE := Lib.hid hE
  have HC := Lib.hid hop
  have HI := Lib.hid hi
  clear hE hop hi
  go_enter Tryz.func71, Tryz.ntmps71
  go_wp2_with fail
  refine (of_lit op _ (opEnv_later HE.out B0) HC.out nm p r 2 true (by rw [HI.out]; rfl) (by rw [HI.out]; rfl)).mono ?_
  rintro e w1 ⟨rfl, c1⟩
  have B1 := B0.trans (c1.mono B0.size)
  have s0 : w.heap.size < w1.heap.size := by have := c1.size; simp at this; omega
  have r0 : w1.cell? ⟨w.heap.size, 0, none⟩ = some (.int .i64 op) := cell_later c1 (by simp)
  have r1 : w1.cell? ⟨w.heap.size, 1, none⟩ = some (.int .i64 A) := cell_later c1 (by simp)
  have r2 : w1.cell? ⟨w.heap.size, 2, none⟩ = some (.int .i64 0) := cell_later c1 (by simp)
  have r3 : w1.cell? ⟨w.heap.size, 3, none⟩ = some (.slice la 0 cp) := cell_later c1 (by simp)
  clear c1 B0
  go_wp2_with fail
  refine wp_loop_rounds 1 ?_
  rw [rounds_succ]
  go_wp2_with fail
  refine (word_any [A, 0] _ 2 _ (by simp) (fun j hj => ?_)).mono ?_
  · rcases (show j = 0 ∨ j = 1 by simp at hj; omega) with rfl | rfl
    · rw [World.cell?_alloc_at _ _ _ _ (by simp)]
      rfl
    · rw [World.cell?_alloc_at _ _ _ _ (by simp)]
      rfl
  rintro e w2 ⟨rfl, rfl⟩
  go_wp2_with fail
  go_ret
  exact ⟨rfl, (B1.alloc (by omega) _).alloc (by simp; omega) _⟩

set_option maxRecDepth 100000 in
set_option maxHeartbeats 2000000 in
theorem right_s3 (op A : Int) (nm p r : ByteArray) (w : World) (la : Option Addr) (cp : Nat) (hE : OpEnv w) (hop : (Lit.int .i64 op).wf = true) (hi : opInfo op = some ⟨nm, 3, p, r⟩) :
    Calls Tryz.prog 71 #[.agg #[.int .i64 op, .int .i64 A, .int .i64 0, .slice la 0 cp]] w fun e w' => e = .returned (.bool (allWords [A, 0])) ∧ Below w.heap.size w w' := by
  have B0 : Below w.heap.size w (w.alloc (.cells #[.int .i64 op, .int .i64 A, .int .i64 0, .slice la 0 cp] 33)) := (Below.refl _ _).alloc (Nat.le_refl _) _
  have HE := Lib.hid hE
  have HC := Lib.hid hop
  have HI := Lib.hid hi
  clear hE hop hi
  go_enter Tryz.func71, Tryz.ntmps71
  go_wp2_with fail
  refine (of_lit op _ (opEnv_later HE.out B0) HC.out nm p r 3 true (by rw [HI.out]; rfl) (by rw [HI.out]; rfl)).mono ?_
  rintro e w1 ⟨rfl, c1⟩
  have B1 := B0.trans (c1.mono B0.size)
  have s0 : w.heap.size < w1.heap.size := by have := c1.size; simp at this; omega
  have r0 : w1.cell? ⟨w.heap.size, 0, none⟩ = some (.int .i64 op) := cell_later c1 (by simp)
  have r1 : w1.cell? ⟨w.heap.size, 1, none⟩ = some (.int .i64 A) := cell_later c1 (by simp)
  have r2 : w1.cell? ⟨w.heap.size, 2, none⟩ = some (.int .i64 0) := cell_later c1 (by simp)
  have r3 : w1.cell? ⟨w.heap.size, 3, none⟩ = some (.slice la 0 cp) := cell_later c1 (by simp)
  clear c1 B0
  go_wp2_with fail
  refine wp_loop_rounds 1 ?_
  rw [rounds_succ]
  go_wp2_with fail
  refine (word_any [A, 0] _ 2 _ (by simp) (fun j hj => ?_)).mono ?_
  · rcases (show j = 0 ∨ j = 1 by simp at hj; omega) with rfl | rfl
    · rw [World.cell?_alloc_at _ _ _ _ (by simp)]
      rfl
    · rw [World.cell?_alloc_at _ _ _ _ (by simp)]
      rfl
  rintro e w2 ⟨rfl, rfl⟩
  go_wp2_with fail
  go_ret
  exact ⟨rfl, (B1.alloc (by omega) _).alloc (by simp; omega) _⟩

set_option maxRecDepth 100000 in
set_option maxHeartbeats 2000000 in
theorem right_s4 (op A : Int) (nm p r : ByteArray) (w : World) (la : Option Addr) (cp : Nat) (hE : OpEnv w) (hop : (Lit.int .i64 op).wf = true) (hi : opInfo op = some ⟨nm, 4, p, r⟩) :
    Calls Tryz.prog 71 #[.agg #[.int .i64 op, .int .i64 A, .int .i64 0, .slice la 0 cp]] w fun e w' => e = .returned (.bool (allWords [A, 0])) ∧ Below w.heap.size w w' := by
  have B0 : Below w.heap.size w (w.alloc (.cells #[.int .i64 op, .int .i64 A, .int .i64 0, .slice la 0 cp] 33)) := (Below.refl _ _).alloc (Nat.le_refl _) _
  have HE := Lib.hid hE
  have HC := Lib.hid hop
  have HI := Lib.hid hi
  clear hE hop hi
  go_enter Tryz.func71, Tryz.ntmps71
  go_wp2_with fail
  refine (of_lit op _ (opEnv_later HE.out B0) HC.out nm p r 4 true (by rw [HI.out]; rfl) (by rw [HI.out]; rfl)).mono ?_
  rintro e w1 ⟨rfl, c1⟩
  have B1 := B0.trans (c1.mono B0.size)
  have s0 : w.heap.size < w1.heap.size := by have := c1.size; simp at this; omega
  have r0 : w1.cell? ⟨w.heap.size, 0, none⟩ = some (.int .i64 op) := cell_later c1 (by simp)
  have r1 : w1.cell? ⟨w.heap.size, 1, none⟩ = some (.int .i64 A) := cell_later c1 (by simp)
  have r2 : w1.cell? ⟨w.heap.size, 2, none⟩ = some (.int .i64 0) := cell_later c1 (by simp)
  have r3 : w1.cell? ⟨w.heap.size, 3, none⟩ = some (.slice la 0 cp) := cell_later c1 (by simp)
  clear c1 B0
  go_wp2_with fail
  refine wp_loop_rounds 1 ?_
  rw [rounds_succ]
  go_wp2_with fail
  refine (word_any [A, 0] _ 2 _ (by simp) (fun j hj => ?_)).mono ?_
  · rcases (show j = 0 ∨ j = 1 by simp at hj; omega) with rfl | rfl
    · rw [World.cell?_alloc_at _ _ _ _ (by simp)]
      rfl
    · rw [World.cell?_alloc_at _ _ _ _ (by simp)]
      rfl
  rintro e w2 ⟨rfl, rfl⟩
  go_wp2_with fail
  go_ret
  exact ⟨rfl, (B1.alloc (by omega) _).alloc (by simp; omega) _⟩

set_option maxRecDepth 100000 in
set_option maxHeartbeats 2000000 in
theorem right_s5a (op A B : Int) (nm p r : ByteArray) (w : World) (la : Option Addr) (cp : Nat) (h1 : (B == 0) = true) (hE : OpEnv w) (hop : (Lit.int .i64 op).wf = true) (hi : opInfo op = some ⟨nm, 5, p, r⟩) :
    Calls Tryz.prog 71 #[.agg #[.int .i64 op, .int .i64 A, .int .i64 B, .slice la 0 cp]] w fun e w' => e = .returned (.bool (allWords [A, B])) ∧ Below w.heap.size w w' := by
  have h3 : (B != 0) = false := by simp [bne, h1]
  have B0 : Below w.heap.size w (w.alloc (.cells #[.int .i64 op, .int .i64 A, .int .i64 B, .slice la 0 cp] 33)) := (Below.refl _ _).alloc (Nat.le_refl _) _
  have HE := Lib.hid hE
  have HC := Lib.hid hop
  have HI := Lib.hid hi
  clear hE hop hi
  go_enter Tryz.func71, Tryz.ntmps71
  go_wp2_with fail
  refine (of_lit op _ (opEnv_later HE.out B0) HC.out nm p r 5 true (by rw [HI.out]; rfl) (by rw [HI.out]; rfl)).mono ?_
  rintro e w1 ⟨rfl, c1⟩
  have B1 := B0.trans (c1.mono B0.size)
  have s0 : w.heap.size < w1.heap.size := by have := c1.size; simp at this; omega
  have r0 : w1.cell? ⟨w.heap.size, 0, none⟩ = some (.int .i64 op) := cell_later c1 (by simp)
  have r1 : w1.cell? ⟨w.heap.size, 1, none⟩ = some (.int .i64 A) := cell_later c1 (by simp)
  have r2 : w1.cell? ⟨w.heap.size, 2, none⟩ = some (.int .i64 B) := cell_later c1 (by simp)
  have r3 : w1.cell? ⟨w.heap.size, 3, none⟩ = some (.slice la 0 cp) := cell_later c1 (by simp)
  clear c1 B0
  go_wp2_with fail
  refine wp_loop_rounds 1 ?_
  rw [rounds_succ]
  go_wp2_with fail
  refine (word_any [A, B] _ 2 _ (by simp) (fun j hj => ?_)).mono ?_
  · rcases (show j = 0 ∨ j = 1 by simp at hj; omega) with rfl | rfl
    · rw [World.cell?_alloc_at _ _ _ _ (by simp)]
      rfl
    · rw [World.cell?_alloc_at _ _ _ _ (by simp)]
      rfl
  rintro e w2 ⟨rfl, rfl⟩
  go_wp2_with fail
  go_ret
  exact ⟨rfl, (B1.alloc (by omega) _).alloc (by simp; omega) _⟩

set_option maxRecDepth 100000 in
set_option maxHeartbeats 2000000 in
theorem right_s5b (op A B : Int) (nm p r : ByteArray) (w : World) (la : Option Addr) (cp : Nat) (h1 : (B == 0) = false) (hE : OpEnv w) (hop : (Lit.int .i64 op).wf = true) (hi : opInfo op = some ⟨nm, 5, p, r⟩) :
    Calls Tryz.prog 71 #[.agg #[.int .i64 op, .int .i64 A, .int .i64 B, .slice la 0 cp]] w fun e w' => e = .returned (.bool (allWords [A, B])) ∧ Below w.heap.size w w' := by
  have h3 : (B != 0) = true := by simp [bne, h1]
  have B0 : Below w.heap.size w (w.alloc (.cells #[.int .i64 op, .int .i64 A, .int .i64 B, .slice la 0 cp] 33)) := (Below.refl _ _).alloc (Nat.le_refl _) _
  have HE := Lib.hid hE
  have HC := Lib.hid hop
  have HI := Lib.hid hi
  clear hE hop hi
  go_enter Tryz.func71, Tryz.ntmps71
  go_wp2_with fail
  refine (of_lit op _ (opEnv_later HE.out B0) HC.out nm p r 5 true (by rw [HI.out]; rfl) (by rw [HI.out]; rfl)).mono ?_
  rintro e w1 ⟨rfl, c1⟩
  have B1 := B0.trans (c1.mono B0.size)
  have s0 : w.heap.size < w1.heap.size := by have := c1.size; simp at this; omega
  have r0 : w1.cell? ⟨w.heap.size, 0, none⟩ = some (.int .i64 op) := cell_later c1 (by simp)
  have r1 : w1.cell? ⟨w.heap.size, 1, none⟩ = some (.int .i64 A) := cell_later c1 (by simp)
  have r2 : w1.cell? ⟨w.heap.size, 2, none⟩ = some (.int .i64 B) := cell_later c1 (by simp)
  have r3 : w1.cell? ⟨w.heap.size, 3, none⟩ = some (.slice la 0 cp) := cell_later c1 (by simp)
  clear c1 B0
  go_wp2_with fail
  refine wp_loop_rounds 1 ?_
  rw [rounds_succ]
  go_wp2_with fail
  refine (word_any [A, B] _ 2 _ (by simp) (fun j hj => ?_)).mono ?_
  · rcases (show j = 0 ∨ j = 1 by simp at hj; omega) with rfl | rfl
    · rw [World.cell?_alloc_at _ _ _ _ (by simp)]
      rfl
    · rw [World.cell?_alloc_at _ _ _ _ (by simp)]
      rfl
  rintro e w2 ⟨rfl, rfl⟩
  go_wp2_with fail
  go_ret
  exact ⟨rfl, (B1.alloc (by omega) _).alloc (by simp; omega) _⟩
end Go.Proofs.YtmfdabkmijbffaaGreatDoor.Op
