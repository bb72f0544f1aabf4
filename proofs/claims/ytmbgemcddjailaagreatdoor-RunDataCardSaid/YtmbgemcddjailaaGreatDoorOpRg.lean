/-
  OpRight, OpRightN, OpRightL in one.
-/
import Derived.Test.YtmbgemcddjailaaGreatDoorOpW
/- OpRight: What package op's Right answers. No condition beyond what each theorem names. -/
namespace Go.Proofs.YtmbgemcddjailaaGreatDoor.Op
open Go.RowKit Go.Maps
set_option linter.unusedVariables false
/-- a slice of numbers in memory -/
def IntsAt (w : World) (v : Value) (zs : List Int) : Prop := (v = .slice none 0 0 ∧ zs = []) ∨ (∃ b off c, v = .slice (some ⟨b, off, none⟩) zs.length c ∧ b < w.heap.size ∧ ∀ j z, zs[j]? = some z → w.cell? ⟨b, off + j, none⟩ = some (.int .i64 z)) ∨ ∃ a c, v = .slice a 0 c ∧ zs = []
theorem intsAt_later {w w' : World} {v : Value} {zs : List Int} (h : IntsAt w v zs) (hb : Below w.heap.size w w') : IntsAt w' v zs := by
  rcases h with h | ⟨b, off, c, hv, hlt, hc⟩ | h
  · exact .inl h
  · exact .inr (.inl ⟨b, off, c, hv, Nat.lt_of_lt_of_le hlt hb.size, fun j z hz => cell_later hb (hc j z hz)⟩)
  · exact .inr (.inr h)
def tailB (sh op A B : Int) : Bool :=
  if sh = 0 ∨ sh = 6 then A == 0 else if sh = 1 then (A == 64 || A == 127 || A == 126) else if sh = 7 then (op == 66 || A == wrap32 A) else wordB A && wordB B
def rightI (i : Info) (op A B : Int) (zs : List Int) : Bool :=
  if B ≠ 0 ∧ i.shape ≠ 5 then false else if zs ≠ [] ∧ i.shape ≠ 3 then false else if 4096 < zs.length then false else if allWords zs then tailB i.shape op A B else false
/-- whether an instruction may be -/
def rightB (op A B : Int) (zs : List Int) : Bool := match opInfo op with
  | none => false
  | some i => rightI i op A B zs
theorem of_lit (code : Int) (w : World) (hE : OpEnv w) (hc : (Lit.int .i64 code).wf = true) (nm p r : ByteArray) (sh : Int) (b : Bool) (hi : (opInfo code).getD zeroI = ⟨nm, sh, p, r⟩) (hb : (opInfo code).isSome = b) :
    Calls Tryz.prog 93 #[.int .i64 code] w fun e w' => e = .returned (.tuple #[.agg #[.string nm, .int .i64 sh, .string p, .string r], .bool b]) ∧ Below w.heap.size w w' :=
  of_any code w hE hc _ b hi hb

set_option maxRecDepth 100000 in
set_option maxHeartbeats 2000000 in
theorem right_none (op A B : Int) (lv : Value) (w : World) (hE : OpEnv w) (hop : (Lit.int .i64 op).wf = true) (hi : opInfo op = none) :
    Calls Tryz.prog 64 #[.agg #[.int .i64 op, .int .i64 A, .int .i64 B, lv]] w fun e w' => e = .returned (.bool false) ∧ Below w.heap.size w w' := by
  have B0 : Below w.heap.size w (w.alloc (.cells #[.int .i64 op, .int .i64 A, .int .i64 B, lv] 29)) := (Below.refl _ _).alloc (Nat.le_refl _) _
  have HE := Lib.hid hE
  have HC := Lib.hid hop
  have HI := Lib.hid hi
  clear hE hop hi
  go_enter Tryz.func64, Tryz.ntmps64
  go_wp2_with fail
  refine (of_lit op _ (opEnv_later HE.out B0) HC.out ⟨#[]⟩ ⟨#[]⟩ ⟨#[]⟩ 0 false (by rw [HI.out]; rfl) (by rw [HI.out]; rfl)).mono ?_
  rintro e w1 ⟨rfl, c1⟩
  have B1 := B0.trans (c1.mono B0.size)
  have s0 : w.heap.size < w1.heap.size := by have := c1.size; simp at this; omega
  have r0 : w1.cell? ⟨w.heap.size, 0, none⟩ = some (.int .i64 op) := cell_later c1 (by simp)
  have r1 : w1.cell? ⟨w.heap.size, 1, none⟩ = some (.int .i64 A) := cell_later c1 (by simp)
  have r2 : w1.cell? ⟨w.heap.size, 2, none⟩ = some (.int .i64 B) := cell_later c1 (by simp)
  have r3 : w1.cell? ⟨w.heap.size, 3, none⟩ = some (lv) := cell_later c1 (by simp)
  clear c1 B0
  go_wp2_with fail
  go_ret
  exact ⟨rfl, B1.alloc (by omega) _⟩

set_option maxRecDepth 100000 in
set_option maxHeartbeats 2000000 in
theorem right_b (op A B : Int) (lv : Value) (nm p r : ByteArray) (sh : Int) (w : World) (h1 : (B == 0) = false) (h2 : (sh == 5) = false) (hE : OpEnv w) (hop : (Lit.int .i64 op).wf = true) (hi : opInfo op = some ⟨nm, sh, p, r⟩) :
    Calls Tryz.prog 64 #[.agg #[.int .i64 op, .int .i64 A, .int .i64 B, lv]] w fun e w' => e = .returned (.bool false) ∧ Below w.heap.size w w' := by
  have h3 : (B != 0) = true := by simp [bne, h1]
  have h4 : (sh != 5) = true := by simp [bne, h2]
  have B0 : Below w.heap.size w (w.alloc (.cells #[.int .i64 op, .int .i64 A, .int .i64 B, lv] 29)) := (Below.refl _ _).alloc (Nat.le_refl _) _
  have HE := Lib.hid hE
  have HC := Lib.hid hop
  have HI := Lib.hid hi
  clear hE hop hi
  go_enter Tryz.func64, Tryz.ntmps64
  go_wp2_with fail
  refine (of_lit op _ (opEnv_later HE.out B0) HC.out nm p r sh true (by rw [HI.out]; rfl) (by rw [HI.out]; rfl)).mono ?_
  rintro e w1 ⟨rfl, c1⟩
  have B1 := B0.trans (c1.mono B0.size)
  have s0 : w.heap.size < w1.heap.size := by have := c1.size; simp at this; omega
  have r0 : w1.cell? ⟨w.heap.size, 0, none⟩ = some (.int .i64 op) := cell_later c1 (by simp)
  have r1 : w1.cell? ⟨w.heap.size, 1, none⟩ = some (.int .i64 A) := cell_later c1 (by simp)
  have r2 : w1.cell? ⟨w.heap.size, 2, none⟩ = some (.int .i64 B) := cell_later c1 (by simp)
  have r3 : w1.cell? ⟨w.heap.size, 3, none⟩ = some (lv) := cell_later c1 (by simp)
  clear c1 B0
  go_wp2_with fail
  go_ret
  exact ⟨rfl, B1.alloc (by omega) _⟩

set_option maxRecDepth 100000 in
set_option maxHeartbeats 2000000 in
theorem right_l0 (op A B : Int) (nm p r : ByteArray) (sh : Int) (w : World) (lb lo len cp : Nat) (h1 : (B == 0) = true) (h2 : (sh == 3) = false) (h5 : 0 < len) (hE : OpEnv w) (hop : (Lit.int .i64 op).wf = true) (hi : opInfo op = some ⟨nm, sh, p, r⟩) :
    Calls Tryz.prog 64 #[.agg #[.int .i64 op, .int .i64 A, .int .i64 B, .slice (some ⟨lb, lo, none⟩) len cp]] w fun e w' => e = .returned (.bool false) ∧ Below w.heap.size w w' := by
  have h3 : (B != 0) = false := by simp [bne, h1]
  have h4 : (sh != 3) = true := by simp [bne, h2]
  have B0 : Below w.heap.size w (w.alloc (.cells #[.int .i64 op, .int .i64 A, .int .i64 B, .slice (some ⟨lb, lo, none⟩) len cp] 29)) := (Below.refl _ _).alloc (Nat.le_refl _) _
  have HE := Lib.hid hE
  have HC := Lib.hid hop
  have HI := Lib.hid hi
  clear hE hop hi
  go_enter Tryz.func64, Tryz.ntmps64
  go_wp2_with fail
  refine (of_lit op _ (opEnv_later HE.out B0) HC.out nm p r sh true (by rw [HI.out]; rfl) (by rw [HI.out]; rfl)).mono ?_
  rintro e w1 ⟨rfl, c1⟩
  have B1 := B0.trans (c1.mono B0.size)
  have s0 : w.heap.size < w1.heap.size := by have := c1.size; simp at this; omega
  have r0 : w1.cell? ⟨w.heap.size, 0, none⟩ = some (.int .i64 op) := cell_later c1 (by simp)
  have r1 : w1.cell? ⟨w.heap.size, 1, none⟩ = some (.int .i64 A) := cell_later c1 (by simp)
  have r2 : w1.cell? ⟨w.heap.size, 2, none⟩ = some (.int .i64 B) := cell_later c1 (by simp)
  have r3 : w1.cell? ⟨w.heap.size, 3, none⟩ = some (.slice (some ⟨lb, lo, none⟩) len cp) := cell_later c1 (by simp)
  clear c1 B0
  go_wp2_with fail
  go_ret
  exact ⟨rfl, B1.alloc (by omega) _⟩

set_option maxRecDepth 100000 in
set_option maxHeartbeats 2000000 in
theorem right_l5 (op A B : Int) (nm p r : ByteArray) (sh : Int) (w : World) (lb lo len cp : Nat) (h1 : (B == 0) = false) (h0 : (sh == 5) = true) (h2 : (sh == 3) = false) (h5 : 0 < len) (hE : OpEnv w) (hop : (Lit.int .i64 op).wf = true) (hi : opInfo op = some ⟨nm, sh, p, r⟩) :
    Calls Tryz.prog 64 #[.agg #[.int .i64 op, .int .i64 A, .int .i64 B, .slice (some ⟨lb, lo, none⟩) len cp]] w fun e w' => e = .returned (.bool false) ∧ Below w.heap.size w w' := by
  have h3 : (B != 0) = true := by simp [bne, h1]
  have h4 : (sh != 3) = true := by simp [bne, h2]
  have h6 : (sh != 5) = false := by simp [bne, h0]
  have B0 : Below w.heap.size w (w.alloc (.cells #[.int .i64 op, .int .i64 A, .int .i64 B, .slice (some ⟨lb, lo, none⟩) len cp] 29)) := (Below.refl _ _).alloc (Nat.le_refl _) _
  have HE := Lib.hid hE
  have HC := Lib.hid hop
  have HI := Lib.hid hi
  clear hE hop hi
  go_enter Tryz.func64, Tryz.ntmps64
  go_wp2_with fail
  refine (of_lit op _ (opEnv_later HE.out B0) HC.out nm p r sh true (by rw [HI.out]; rfl) (by rw [HI.out]; rfl)).mono ?_
  rintro e w1 ⟨rfl, c1⟩
  have B1 := B0.trans (c1.mono B0.size)
  have s0 : w.heap.size < w1.heap.size := by have := c1.size; simp at this; omega
  have r0 : w1.cell? ⟨w.heap.size, 0, none⟩ = some (.int .i64 op) := cell_later c1 (by simp)
  have r1 : w1.cell? ⟨w.heap.size, 1, none⟩ = some (.int .i64 A) := cell_later c1 (by simp)
  have r2 : w1.cell? ⟨w.heap.size, 2, none⟩ = some (.int .i64 B) := cell_later c1 (by simp)
  have r3 : w1.cell? ⟨w.heap.size, 3, none⟩ = some (.slice (some ⟨lb, lo, none⟩) len cp) := cell_later c1 (by simp)
  clear c1 B0
  go_wp2_with fail
  go_ret
  exact ⟨rfl, B1.alloc (by omega) _⟩

set_option maxRecDepth 100000 in
set_option maxHeartbeats 2000000 in
theorem right_long (op A B : Int) (nm p r : ByteArray) (w : World) (lb lo len cp : Nat) (h1 : (B == 0) = true) (h5 : 4096 < len) (hE : OpEnv w) (hop : (Lit.int .i64 op).wf = true) (hi : opInfo op = some ⟨nm, 3, p, r⟩) :
    Calls Tryz.prog 64 #[.agg #[.int .i64 op, .int .i64 A, .int .i64 B, .slice (some ⟨lb, lo, none⟩) len cp]] w fun e w' => e = .returned (.bool false) ∧ Below w.heap.size w w' := by
  have h3 : (B != 0) = false := by simp [bne, h1]
  have h7 : 0 < len := by omega
  have B0 : Below w.heap.size w (w.alloc (.cells #[.int .i64 op, .int .i64 A, .int .i64 B, .slice (some ⟨lb, lo, none⟩) len cp] 29)) := (Below.refl _ _).alloc (Nat.le_refl _) _
  have HE := Lib.hid hE
  have HC := Lib.hid hop
  have HI := Lib.hid hi
  clear hE hop hi
  go_enter Tryz.func64, Tryz.ntmps64
  go_wp2_with fail
  refine (of_lit op _ (opEnv_later HE.out B0) HC.out nm p r 3 true (by rw [HI.out]; rfl) (by rw [HI.out]; rfl)).mono ?_
  rintro e w1 ⟨rfl, c1⟩
  have B1 := B0.trans (c1.mono B0.size)
  have s0 : w.heap.size < w1.heap.size := by have := c1.size; simp at this; omega
  have r0 : w1.cell? ⟨w.heap.size, 0, none⟩ = some (.int .i64 op) := cell_later c1 (by simp)
  have r1 : w1.cell? ⟨w.heap.size, 1, none⟩ = some (.int .i64 A) := cell_later c1 (by simp)
  have r2 : w1.cell? ⟨w.heap.size, 2, none⟩ = some (.int .i64 B) := cell_later c1 (by simp)
  have r3 : w1.cell? ⟨w.heap.size, 3, none⟩ = some (.slice (some ⟨lb, lo, none⟩) len cp) := cell_later c1 (by simp)
  clear c1 B0
  go_wp2_with fail
  go_ret
  exact ⟨rfl, B1.alloc (by omega) _⟩

set_option maxRecDepth 100000 in
set_option maxHeartbeats 2000000 in
theorem right_s0 (op A : Int) (nm p r : ByteArray) (w : World) (la : Option Addr) (cp : Nat) (hE : OpEnv w) (hop : (Lit.int .i64 op).wf = true) (hi : opInfo op = some ⟨nm, 0, p, r⟩) :
    Calls Tryz.prog 64 #[.agg #[.int .i64 op, .int .i64 A, .int .i64 0, .slice la 0 cp]] w fun e w' => e = .returned (.bool (A == 0)) ∧ Below w.heap.size w w' := by
  have B0 : Below w.heap.size w (w.alloc (.cells #[.int .i64 op, .int .i64 A, .int .i64 0, .slice la 0 cp] 29)) := (Below.refl _ _).alloc (Nat.le_refl _) _
  have HE := Lib.hid hE
  have HC := Lib.hid hop
  have HI := Lib.hid hi
  clear hE hop hi
  go_enter Tryz.func64, Tryz.ntmps64
  go_wp2_with fail
  refine (of_lit op _ (opEnv_later HE.out B0) HC.out nm p r 0 true (by rw [HI.out]; rfl) (by rw [HI.out]; rfl)).mono ?_
  rintro e w1 ⟨rfl, c1⟩
  have B1 := B0.trans (c1.mono B0.size)
  have s0 : w.heap.size < w1.heap.size := by have := c1.size; simp at this; omega
  have r0 : w1.cell? ⟨w.heap.size, 0, none⟩ = some (.int .i64 op) := cell_later c1 (by simp)
  have r1 : w1.cell? ⟨w.heap.size, 1, none⟩ = some (.int .i64 A) := cell_later c1 (by simp)
  have r2 : w1.cell? ⟨w.heap.size, 2, none⟩ = some (.int .i64 0) := cell_later c1 (by simp)
  have r3 : w1.cell? ⟨w.heap.size, 3, none⟩ = some (.slice la 0 cp) := cell_later c1 (by simp)
  clear c1 B0
  go_wp2_with fail
  refine wp_loop_rounds 1 ?_
  rw [rounds_succ]
  go_wp2_with fail
  go_ret
  exact ⟨rfl, B1.alloc (by omega) _⟩

set_option maxRecDepth 100000 in
set_option maxHeartbeats 2000000 in
theorem right_s6 (op A : Int) (nm p r : ByteArray) (w : World) (la : Option Addr) (cp : Nat) (hE : OpEnv w) (hop : (Lit.int .i64 op).wf = true) (hi : opInfo op = some ⟨nm, 6, p, r⟩) :
    Calls Tryz.prog 64 #[.agg #[.int .i64 op, .int .i64 A, .int .i64 0, .slice la 0 cp]] w fun e w' => e = .returned (.bool (A == 0)) ∧ Below w.heap.size w w' := by
  have B0 : Below w.heap.size w (w.alloc (.cells #[.int .i64 op, .int .i64 A, .int .i64 0, .slice la 0 cp] 29)) := (Below.refl _ _).alloc (Nat.le_refl _) _
  have HE := Lib.hid hE
  have HC := Lib.hid hop
  have HI := Lib.hid hi
  clear hE hop hi
  go_enter Tryz.func64, Tryz.ntmps64
  go_wp2_with fail
  refine (of_lit op _ (opEnv_later HE.out B0) HC.out nm p r 6 true (by rw [HI.out]; rfl) (by rw [HI.out]; rfl)).mono ?_
  rintro e w1 ⟨rfl, c1⟩
  have B1 := B0.trans (c1.mono B0.size)
  have s0 : w.heap.size < w1.heap.size := by have := c1.size; simp at this; omega
  have r0 : w1.cell? ⟨w.heap.size, 0, none⟩ = some (.int .i64 op) := cell_later c1 (by simp)
  have r1 : w1.cell? ⟨w.heap.size, 1, none⟩ = some (.int .i64 A) := cell_later c1 (by simp)
  have r2 : w1.cell? ⟨w.heap.size, 2, none⟩ = some (.int .i64 0) := cell_later c1 (by simp)
  have r3 : w1.cell? ⟨w.heap.size, 3, none⟩ = some (.slice la 0 cp) := cell_later c1 (by simp)
  clear c1 B0
  go_wp2_with fail
  refine wp_loop_rounds 1 ?_
  rw [rounds_succ]
  go_wp2_with fail
  go_ret
  exact ⟨rfl, B1.alloc (by omega) _⟩

set_option maxRecDepth 100000 in
set_option maxHeartbeats 2000000 in
theorem right_s1a (op A : Int) (nm p r : ByteArray) (w : World) (la : Option Addr) (cp : Nat) (h1 : (A == 64) = true) (hE : OpEnv w) (hop : (Lit.int .i64 op).wf = true) (hi : opInfo op = some ⟨nm, 1, p, r⟩) :
    Calls Tryz.prog 64 #[.agg #[.int .i64 op, .int .i64 A, .int .i64 0, .slice la 0 cp]] w fun e w' => e = .returned (.bool true) ∧ Below w.heap.size w w' := by
  have B0 : Below w.heap.size w (w.alloc (.cells #[.int .i64 op, .int .i64 A, .int .i64 0, .slice la 0 cp] 29)) := (Below.refl _ _).alloc (Nat.le_refl _) _
  have HE := Lib.hid hE
  have HC := Lib.hid hop
  have HI := Lib.hid hi
  clear hE hop hi
  go_enter Tryz.func64, Tryz.ntmps64
  go_wp2_with fail
  refine (of_lit op _ (opEnv_later HE.out B0) HC.out nm p r 1 true (by rw [HI.out]; rfl) (by rw [HI.out]; rfl)).mono ?_
  rintro e w1 ⟨rfl, c1⟩
  have B1 := B0.trans (c1.mono B0.size)
  have s0 : w.heap.size < w1.heap.size := by have := c1.size; simp at this; omega
  have r0 : w1.cell? ⟨w.heap.size, 0, none⟩ = some (.int .i64 op) := cell_later c1 (by simp)
  have r1 : w1.cell? ⟨w.heap.size, 1, none⟩ = some (.int .i64 A) := cell_later c1 (by simp)
  have r2 : w1.cell? ⟨w.heap.size, 2, none⟩ = some (.int .i64 0) := cell_later c1 (by simp)
  have r3 : w1.cell? ⟨w.heap.size, 3, none⟩ = some (.slice la 0 cp) := cell_later c1 (by simp)
  clear c1 B0
  go_wp2_with fail
  refine wp_loop_rounds 1 ?_
  rw [rounds_succ]
  go_wp2_with fail
  go_ret
  exact ⟨rfl, B1.alloc (by omega) _⟩

set_option maxRecDepth 100000 in
set_option maxHeartbeats 2000000 in
theorem right_s1b (op A : Int) (nm p r : ByteArray) (w : World) (la : Option Addr) (cp : Nat) (h1 : (A == 64) = false) (h2 : (A == 127) = true) (hE : OpEnv w) (hop : (Lit.int .i64 op).wf = true) (hi : opInfo op = some ⟨nm, 1, p, r⟩) :
    Calls Tryz.prog 64 #[.agg #[.int .i64 op, .int .i64 A, .int .i64 0, .slice la 0 cp]] w fun e w' => e = .returned (.bool true) ∧ Below w.heap.size w w' := by
  have B0 : Below w.heap.size w (w.alloc (.cells #[.int .i64 op, .int .i64 A, .int .i64 0, .slice la 0 cp] 29)) := (Below.refl _ _).alloc (Nat.le_refl _) _
  have HE := Lib.hid hE
  have HC := Lib.hid hop
  have HI := Lib.hid hi
  clear hE hop hi
  go_enter Tryz.func64, Tryz.ntmps64
  go_wp2_with fail
  refine (of_lit op _ (opEnv_later HE.out B0) HC.out nm p r 1 true (by rw [HI.out]; rfl) (by rw [HI.out]; rfl)).mono ?_
  rintro e w1 ⟨rfl, c1⟩
  have B1 := B0.trans (c1.mono B0.size)
  have s0 : w.heap.size < w1.heap.size := by have := c1.size; simp at this; omega
  have r0 : w1.cell? ⟨w.heap.size, 0, none⟩ = some (.int .i64 op) := cell_later c1 (by simp)
  have r1 : w1.cell? ⟨w.heap.size, 1, none⟩ = some (.int .i64 A) := cell_later c1 (by simp)
  have r2 : w1.cell? ⟨w.heap.size, 2, none⟩ = some (.int .i64 0) := cell_later c1 (by simp)
  have r3 : w1.cell? ⟨w.heap.size, 3, none⟩ = some (.slice la 0 cp) := cell_later c1 (by simp)
  clear c1 B0
  go_wp2_with fail
  refine wp_loop_rounds 1 ?_
  rw [rounds_succ]
  go_wp2_with fail
  go_ret
  exact ⟨rfl, B1.alloc (by omega) _⟩

set_option maxRecDepth 100000 in
set_option maxHeartbeats 2000000 in
theorem right_s1c (op A : Int) (nm p r : ByteArray) (w : World) (la : Option Addr) (cp : Nat) (h1 : (A == 64) = false) (h2 : (A == 127) = false) (hE : OpEnv w) (hop : (Lit.int .i64 op).wf = true) (hi : opInfo op = some ⟨nm, 1, p, r⟩) :
    Calls Tryz.prog 64 #[.agg #[.int .i64 op, .int .i64 A, .int .i64 0, .slice la 0 cp]] w fun e w' => e = .returned (.bool (A == 126)) ∧ Below w.heap.size w w' := by
  have B0 : Below w.heap.size w (w.alloc (.cells #[.int .i64 op, .int .i64 A, .int .i64 0, .slice la 0 cp] 29)) := (Below.refl _ _).alloc (Nat.le_refl _) _
  have HE := Lib.hid hE
  have HC := Lib.hid hop
  have HI := Lib.hid hi
  clear hE hop hi
  go_enter Tryz.func64, Tryz.ntmps64
  go_wp2_with fail
  refine (of_lit op _ (opEnv_later HE.out B0) HC.out nm p r 1 true (by rw [HI.out]; rfl) (by rw [HI.out]; rfl)).mono ?_
  rintro e w1 ⟨rfl, c1⟩
  have B1 := B0.trans (c1.mono B0.size)
  have s0 : w.heap.size < w1.heap.size := by have := c1.size; simp at this; omega
  have r0 : w1.cell? ⟨w.heap.size, 0, none⟩ = some (.int .i64 op) := cell_later c1 (by simp)
  have r1 : w1.cell? ⟨w.heap.size, 1, none⟩ = some (.int .i64 A) := cell_later c1 (by simp)
  have r2 : w1.cell? ⟨w.heap.size, 2, none⟩ = some (.int .i64 0) := cell_later c1 (by simp)
  have r3 : w1.cell? ⟨w.heap.size, 3, none⟩ = some (.slice la 0 cp) := cell_later c1 (by simp)
  clear c1 B0
  go_wp2_with fail
  refine wp_loop_rounds 1 ?_
  rw [rounds_succ]
  go_wp2_with fail
  go_ret
  exact ⟨rfl, B1.alloc (by omega) _⟩

set_option maxRecDepth 100000 in
set_option maxHeartbeats 2000000 in
theorem right_s7a (op A : Int) (nm p r : ByteArray) (w : World) (la : Option Addr) (cp : Nat) (h1 : (op == 66) = true) (hE : OpEnv w) (hop : (Lit.int .i64 op).wf = true) (hi : opInfo op = some ⟨nm, 7, p, r⟩) :
    Calls Tryz.prog 64 #[.agg #[.int .i64 op, .int .i64 A, .int .i64 0, .slice la 0 cp]] w fun e w' => e = .returned (.bool true) ∧ Below w.heap.size w w' := by
  have B0 : Below w.heap.size w (w.alloc (.cells #[.int .i64 op, .int .i64 A, .int .i64 0, .slice la 0 cp] 29)) := (Below.refl _ _).alloc (Nat.le_refl _) _
  have HE := Lib.hid hE
  have HC := Lib.hid hop
  have HI := Lib.hid hi
  clear hE hop hi
  go_enter Tryz.func64, Tryz.ntmps64
  go_wp2_with fail
  refine (of_lit op _ (opEnv_later HE.out B0) HC.out nm p r 7 true (by rw [HI.out]; rfl) (by rw [HI.out]; rfl)).mono ?_
  rintro e w1 ⟨rfl, c1⟩
  have B1 := B0.trans (c1.mono B0.size)
  have s0 : w.heap.size < w1.heap.size := by have := c1.size; simp at this; omega
  have r0 : w1.cell? ⟨w.heap.size, 0, none⟩ = some (.int .i64 op) := cell_later c1 (by simp)
  have r1 : w1.cell? ⟨w.heap.size, 1, none⟩ = some (.int .i64 A) := cell_later c1 (by simp)
  have r2 : w1.cell? ⟨w.heap.size, 2, none⟩ = some (.int .i64 0) := cell_later c1 (by simp)
  have r3 : w1.cell? ⟨w.heap.size, 3, none⟩ = some (.slice la 0 cp) := cell_later c1 (by simp)
  clear c1 B0
  go_wp2_with fail
  refine wp_loop_rounds 1 ?_
  rw [rounds_succ]
  go_wp2_with fail
  go_ret
  exact ⟨rfl, B1.alloc (by omega) _⟩

set_option maxRecDepth 100000 in
set_option maxHeartbeats 2000000 in
theorem right_s7b (op A : Int) (nm p r : ByteArray) (w : World) (la : Option Addr) (cp : Nat) (h1 : (op == 66) = false) (hE : OpEnv w) (hop : (Lit.int .i64 op).wf = true) (hi : opInfo op = some ⟨nm, 7, p, r⟩) :
    Calls Tryz.prog 64 #[.agg #[.int .i64 op, .int .i64 A, .int .i64 0, .slice la 0 cp]] w fun e w' => e = .returned (.bool (A == wrap32 A)) ∧ Below w.heap.size w w' := by
  have h2 : wrap64 (wrap32 A) = wrap32 A := by have h9 : -2147483648 ≤ wrap32 A ∧ wrap32 A < 2147483648 := by unfold wrap32; omega
                                               generalize wrap32 A = z at *; unfold wrap64; omega
  have B0 : Below w.heap.size w (w.alloc (.cells #[.int .i64 op, .int .i64 A, .int .i64 0, .slice la 0 cp] 29)) := (Below.refl _ _).alloc (Nat.le_refl _) _
  have HE := Lib.hid hE
  have HC := Lib.hid hop
  have HI := Lib.hid hi
  clear hE hop hi
  go_enter Tryz.func64, Tryz.ntmps64
  go_wp2_with fail
  refine (of_lit op _ (opEnv_later HE.out B0) HC.out nm p r 7 true (by rw [HI.out]; rfl) (by rw [HI.out]; rfl)).mono ?_
  rintro e w1 ⟨rfl, c1⟩
  have B1 := B0.trans (c1.mono B0.size)
  have s0 : w.heap.size < w1.heap.size := by have := c1.size; simp at this; omega
  have r0 : w1.cell? ⟨w.heap.size, 0, none⟩ = some (.int .i64 op) := cell_later c1 (by simp)
  have r1 : w1.cell? ⟨w.heap.size, 1, none⟩ = some (.int .i64 A) := cell_later c1 (by simp)
  have r2 : w1.cell? ⟨w.heap.size, 2, none⟩ = some (.int .i64 0) := cell_later c1 (by simp)
  have r3 : w1.cell? ⟨w.heap.size, 3, none⟩ = some (.slice la 0 cp) := cell_later c1 (by simp)
  clear c1 B0
  go_wp2_with fail
  refine wp_loop_rounds 1 ?_
  rw [rounds_succ]
  go_wp2_with fail
  go_ret
  exact ⟨rfl, B1.alloc (by omega) _⟩

set_option maxRecDepth 100000 in
set_option maxHeartbeats 2000000 in
theorem right_s2 (op A : Int) (nm p r : ByteArray) (w : World) (la : Option Addr) (cp : Nat) (hE : OpEnv w) (hop : (Lit.int .i64 op).wf = true) (hi : opInfo op = some ⟨nm, 2, p, r⟩) :
    Calls Tryz.prog 64 #[.agg #[.int .i64 op, .int .i64 A, .int .i64 0, .slice la 0 cp]] w fun e w' => e = .returned (.bool (allWords [A, 0])) ∧ Below w.heap.size w w' := by
  have B0 : Below w.heap.size w (w.alloc (.cells #[.int .i64 op, .int .i64 A, .int .i64 0, .slice la 0 cp] 29)) := (Below.refl _ _).alloc (Nat.le_refl _) _
  have HE := Lib.hid hE
  have HC := Lib.hid hop
  have HI := Lib.hid hi
  clear hE hop hi
  go_enter Tryz.func64, Tryz.ntmps64
  go_wp2_with fail
  refine (of_lit op _ (opEnv_later HE.out B0) HC.out nm p r 2 true (by rw [HI.out]; rfl) (by rw [HI.out]; rfl)).mono ?_
  rintro e w1 ⟨rfl, c1⟩
  have B1 := B0.trans (c1.mono B0.size)
  have s0 : w.heap.size < w1.heap.size := by have := c1.size; simp at this; omega
  have r0 : w1.cell? ⟨w.heap.size, 0, none⟩ = some (.int .i64 op) := cell_later c1 (by simp)
  have r1 : w1.cell? ⟨w.heap.size, 1, none⟩ = some (.int .i64 A) := cell_later c1 (by simp)
  have r2 : w1.cell? ⟨w.heap.size, 2, none⟩ = some (.int .i64 0) := cell_later c1 (by simp)
  have r3 : w1.cell? ⟨w.heap.size, 3, none⟩ = some (.slice la 0 cp) := cell_later c1 (by simp)
  clear c1 B0
  go_wp2_with fail
  refine wp_loop_rounds 1 ?_
  rw [rounds_succ]
  go_wp2_with fail
  refine (word_any [A, 0] _ 2 _ (by simp) (fun j hj => ?_)).mono ?_
  · rcases (show j = 0 ∨ j = 1 by simp at hj; omega) with rfl | rfl
    · rw [World.cell?_alloc_at _ _ _ _ (by simp)]
      rfl
    · rw [World.cell?_alloc_at _ _ _ _ (by simp)]
      rfl
  rintro e w2 ⟨rfl, rfl⟩
  go_wp2_with fail
  go_ret
  exact ⟨rfl, (B1.alloc (by omega) _).alloc (by simp; omega) _⟩

set_option maxRecDepth 100000 in
set_option maxHeartbeats 2000000 in
theorem right_s3 (op A : Int) (nm p r : ByteArray) (w : World) (la : Option Addr) (cp : Nat) (hE : OpEnv w) (hop : (Lit.int .i64 op).wf = true) (hi : opInfo op = some ⟨nm, 3, p, r⟩) :
    Calls Tryz.prog 64 #[.agg #[.int .i64 op, .int .i64 A, .int .i64 0, .slice la 0 cp]] w fun e w' => e = .returned (.bool (allWords [A, 0])) ∧ Below w.heap.size w w' := by
  have B0 : Below w.heap.size w (w.alloc (.cells #[.int .i64 op, .int .i64 A, .int .i64 0, .slice la 0 cp] 29)) := (Below.refl _ _).alloc (Nat.le_refl _) _
  have HE := Lib.hid hE
  have HC := Lib.hid hop
  have HI := Lib.hid hi
  clear hE hop hi
  go_enter Tryz.func64, Tryz.ntmps64
  go_wp2_with fail
  refine (of_lit op _ (opEnv_later HE.out B0) HC.out nm p r 3 true (by rw [HI.out]; rfl) (by rw [HI.out]; rfl)).mono ?_
  rintro e w1 ⟨rfl, c1⟩
  have B1 := B0.trans (c1.mono B0.size)
  have s0 : w.heap.size < w1.heap.size := by have := c1.size; simp at this; omega
  have r0 : w1.cell? ⟨w.heap.size, 0, none⟩ = some (.int .i64 op) := cell_later c1 (by simp)
  have r1 : w1.cell? ⟨w.heap.size, 1, none⟩ = some (.int .i64 A) := cell_later c1 (by simp)
  have r2 : w1.cell? ⟨w.heap.size, 2, none⟩ = some (.int .i64 0) := cell_later c1 (by simp)
  have r3 : w1.cell? ⟨w.heap.size, 3, none⟩ = some (.slice la 0 cp) := cell_later c1 (by simp)
  clear c1 B0
  go_wp2_with fail
  refine wp_loop_rounds 1 ?_
  rw [rounds_succ]
  go_wp2_with fail
  refine (word_any [A, 0] _ 2 _ (by simp) (fun j hj => ?_)).mono ?_
  · rcases (show j = 0 ∨ j = 1 by simp at hj; omega) with rfl | rfl
    · rw [World.cell?_alloc_at _ _ _ _ (by simp)]
      rfl
    · rw [World.cell?_alloc_at _ _ _ _ (by simp)]
      rfl
  rintro e w2 ⟨rfl, rfl⟩
  go_wp2_with fail
  go_ret
  exact ⟨rfl, (B1.alloc (by omega) _).alloc (by simp; omega) _⟩

set_option maxRecDepth 100000 in
set_option maxHeartbeats 2000000 in
theorem right_s4 (op A : Int) (nm p r : ByteArray) (w : World) (la : Option Addr) (cp : Nat) (hE : OpEnv w) (hop : (Lit.int .i64 op).wf = true) (hi : opInfo op = some ⟨nm, 4, p, r⟩) :
    Calls Tryz.prog 64 #[.agg #[.int .i64 op, .int .i64 A, .int .i64 0, .slice la 0 cp]] w fun e w' => e = .returned (.bool (allWords [A, 0])) ∧ Below w.heap.size w w' := by
  have B0 : Below w.heap.size w (w.alloc (.cells #[.int .i64 op, .int .i64 A, .int .i64 0, .slice la 0 cp] 29)) := (Below.refl _ _).alloc (Nat.le_refl _) _
  have HE := Lib.hid hE
  have HC := Lib.hid hop
  have HI := Lib.hid hi
  clear hE hop hi
  go_enter Tryz.func64, Tryz.ntmps64
  go_wp2_with fail
  refine (of_lit op _ (opEnv_later HE.out B0) HC.out nm p r 4 true (by rw [HI.out]; rfl) (by rw [HI.out]; rfl)).mono ?_
  rintro e w1 ⟨rfl, c1⟩
  have B1 := B0.trans (c1.mono B0.size)
  have s0 : w.heap.size < w1.heap.size := by have := c1.size; simp at this; omega
  have r0 : w1.cell? ⟨w.heap.size, 0, none⟩ = some (.int .i64 op) := cell_later c1 (by simp)
  have r1 : w1.cell? ⟨w.heap.size, 1, none⟩ = some (.int .i64 A) := cell_later c1 (by simp)
  have r2 : w1.cell? ⟨w.heap.size, 2, none⟩ = some (.int .i64 0) := cell_later c1 (by simp)
  have r3 : w1.cell? ⟨w.heap.size, 3, none⟩ = some (.slice la 0 cp) := cell_later c1 (by simp)
  clear c1 B0
  go_wp2_with fail
  refine wp_loop_rounds 1 ?_
  rw [rounds_succ]
  go_wp2_with fail
  refine (word_any [A, 0] _ 2 _ (by simp) (fun j hj => ?_)).mono ?_
  · rcases (show j = 0 ∨ j = 1 by simp at hj; omega) with rfl | rfl
    · rw [World.cell?_alloc_at _ _ _ _ (by simp)]
      rfl
    · rw [World.cell?_alloc_at _ _ _ _ (by simp)]
      rfl
  rintro e w2 ⟨rfl, rfl⟩
  go_wp2_with fail
  go_ret
  exact ⟨rfl, (B1.alloc (by omega) _).alloc (by simp; omega) _⟩

set_option maxRecDepth 100000 in
set_option maxHeartbeats 2000000 in
theorem right_s5a (op A B : Int) (nm p r : ByteArray) (w : World) (la : Option Addr) (cp : Nat) (h1 : (B == 0) = true) (hE : OpEnv w) (hop : (Lit.int .i64 op).wf = true) (hi : opInfo op = some ⟨nm, 5, p, r⟩) :
    Calls Tryz.prog 64 #[.agg #[.int .i64 op, .int .i64 A, .int .i64 B, .slice la 0 cp]] w fun e w' => e = .returned (.bool (allWords [A, B])) ∧ Below w.heap.size w w' := by
  have h3 : (B != 0) = false := by simp [bne, h1]
  have B0 : Below w.heap.size w (w.alloc (.cells #[.int .i64 op, .int .i64 A, .int .i64 B, .slice la 0 cp] 29)) := (Below.refl _ _).alloc (Nat.le_refl _) _
  have HE := Lib.hid hE
  have HC := Lib.hid hop
  have HI := Lib.hid hi
  clear hE hop hi
  go_enter Tryz.func64, Tryz.ntmps64
  go_wp2_with fail
  refine (of_lit op _ (opEnv_later HE.out B0) HC.out nm p r 5 true (by rw [HI.out]; rfl) (by rw [HI.out]; rfl)).mono ?_
  rintro e w1 ⟨rfl, c1⟩
  have B1 := B0.trans (c1.mono B0.size)
  have s0 : w.heap.size < w1.heap.size := by have := c1.size; simp at this; omega
  have r0 : w1.cell? ⟨w.heap.size, 0, none⟩ = some (.int .i64 op) := cell_later c1 (by simp)
  have r1 : w1.cell? ⟨w.heap.size, 1, none⟩ = some (.int .i64 A) := cell_later c1 (by simp)
  have r2 : w1.cell? ⟨w.heap.size, 2, none⟩ = some (.int .i64 B) := cell_later c1 (by simp)
  have r3 : w1.cell? ⟨w.heap.size, 3, none⟩ = some (.slice la 0 cp) := cell_later c1 (by simp)
  clear c1 B0
  go_wp2_with fail
  refine wp_loop_rounds 1 ?_
  rw [rounds_succ]
  go_wp2_with fail
  refine (word_any [A, B] _ 2 _ (by simp) (fun j hj => ?_)).mono ?_
  · rcases (show j = 0 ∨ j = 1 by simp at hj; omega) with rfl | rfl
    · rw [World.cell?_alloc_at _ _ _ _ (by simp)]
      rfl
    · rw [World.cell?_alloc_at _ _ _ _ (by simp)]
      rfl
  rintro e w2 ⟨rfl, rfl⟩
  go_wp2_with fail
  go_ret
  exact ⟨rfl, (B1.alloc (by omega) _).alloc (by simp; omega) _⟩

set_option maxRecDepth 100000 in
set_option maxHeartbeats 2000000 in
theorem right_s5b (op A B : Int) (nm p r : ByteArray) (w : World) (la : Option Addr) (cp : Nat) (h1 : (B == 0) = false) (hE : OpEnv w) (hop : (Lit.int .i64 op).wf = true) (hi : opInfo op = some ⟨nm, 5, p, r⟩) :
    Calls Tryz.prog 64 #[.agg #[.int .i64 op, .int .i64 A, .int .i64 B, .slice la 0 cp]] w fun e w' => e = .returned (.bool (allWords [A, B])) ∧ Below w.heap.size w w' := by
  have h3 : (B != 0) = true := by simp [bne, h1]
  have B0 : Below w.heap.size w (w.alloc (.cells #[.int .i64 op, .int .i64 A, .int .i64 B, .slice la 0 cp] 29)) := (Below.refl _ _).alloc (Nat.le_refl _) _
  have HE := Lib.hid hE
  have HC := Lib.hid hop
  have HI := Lib.hid hi
  clear hE hop hi
  go_enter Tryz.func64, Tryz.ntmps64
  go_wp2_with fail
  refine (of_lit op _ (opEnv_later HE.out B0) HC.out nm p r 5 true (by rw [HI.out]; rfl) (by rw [HI.out]; rfl)).mono ?_
  rintro e w1 ⟨rfl, c1⟩
  have B1 := B0.trans (c1.mono B0.size)
  have s0 : w.heap.size < w1.heap.size := by have := c1.size; simp at this; omega
  have r0 : w1.cell? ⟨w.heap.size, 0, none⟩ = some (.int .i64 op) := cell_later c1 (by simp)
  have r1 : w1.cell? ⟨w.heap.size, 1, none⟩ = some (.int .i64 A) := cell_later c1 (by simp)
  have r2 : w1.cell? ⟨w.heap.size, 2, none⟩ = some (.int .i64 B) := cell_later c1 (by simp)
  have r3 : w1.cell? ⟨w.heap.size, 3, none⟩ = some (.slice la 0 cp) := cell_later c1 (by simp)
  clear c1 B0
  go_wp2_with fail
  refine wp_loop_rounds 1 ?_
  rw [rounds_succ]
  go_wp2_with fail
  refine (word_any [A, B] _ 2 _ (by simp) (fun j hj => ?_)).mono ?_
  · rcases (show j = 0 ∨ j = 1 by simp at hj; omega) with rfl | rfl
    · rw [World.cell?_alloc_at _ _ _ _ (by simp)]
      rfl
    · rw [World.cell?_alloc_at _ _ _ _ (by simp)]
      rfl
  rintro e w2 ⟨rfl, rfl⟩
  go_wp2_with fail
  go_ret
  exact ⟨rfl, (B1.alloc (by omega) _).alloc (by simp; omega) _⟩
end Go.Proofs.YtmbgemcddjailaaGreatDoor.Op

/- OpRightN: What package op's Right answers where there are no labels. No condition beyond what each theorem names. -/
namespace Go.Proofs.YtmbgemcddjailaaGreatDoor.Op
open Go.RowKit Go.Maps
set_option linter.unusedVariables false
theorem tail_0 (op A B : Int) : tailB 0 op A B = (A == 0) := by unfold tailB; rw [if_pos (.inl rfl)]
theorem tail_6 (op A B : Int) : tailB 6 op A B = (A == 0) := by unfold tailB; rw [if_pos (.inr rfl)]
theorem tail_1 (op A B : Int) : tailB 1 op A B = (A == 64 || A == 127 || A == 126) := by unfold tailB; rw [if_neg (by decide), if_pos rfl]
theorem tail_7 (op A B : Int) : tailB 7 op A B = (op == 66 || A == wrap32 A) := by unfold tailB; rw [if_neg (by decide), if_neg (by decide), if_pos rfl]
theorem tail_w (sh op A B : Int) (h : 2 ≤ sh) (h2 : sh ≤ 5) : tailB sh op A B = (wordB A && wordB B) := by unfold tailB; rw [if_neg (by omega), if_neg (by omega), if_neg (by omega)]
theorem right_tail {op : Int} {nm p r : ByteArray} {sh : Int} (hi : opInfo op = some ⟨nm, sh, p, r⟩) (A B : Int) (h : B = 0 ∨ sh = 5) : rightB op A B [] = tailB sh op A B := by
  unfold rightB
  rw [hi]
  show rightI ⟨nm, sh, p, r⟩ op A B [] = _
  unfold rightI
  rw [if_neg (fun t => h.elim t.1 t.2), if_neg (by simp), if_neg (by simp), if_pos (show allWords [] = true from rfl)]
theorem right_bad {op : Int} {nm p r : ByteArray} {sh : Int} (hi : opInfo op = some ⟨nm, sh, p, r⟩) (A B : Int) (zs : List Int) (h : B ≠ 0) (h2 : sh ≠ 5) : rightB op A B zs = false := by
  unfold rightB
  rw [hi]
  show rightI ⟨nm, sh, p, r⟩ op A B zs = _
  unfold rightI
  rw [if_pos ⟨h, h2⟩]
theorem shapes_all : (tableL.all fun e => decide (0 ≤ e.2.shape) && decide (e.2.shape ≤ 7)) = true := by kernel_rfl
theorem shape_range {op : Int} {i : Info} (hi : opInfo op = some i) : 0 ≤ i.shape ∧ i.shape ≤ 7 := by
  have h := List.all_eq_true.1 shapes_all _ (opInfo_mem hi)
  simpa using h
theorem words2 (A B : Int) : allWords [A, B] = (wordB A && wordB B) := by simp [allWords]
theorem word0 : wordB 0 = true := by decide
/-- Right, no labels -/
theorem right_nil (op A B : Int) (la : Option Addr) (cp : Nat) (w : World) (hE : OpEnv w) (hop : (Lit.int .i64 op).wf = true) :
    Calls Tryz.prog 64 #[.agg #[.int .i64 op, .int .i64 A, .int .i64 B, .slice la 0 cp]] w fun e w' => e = .returned (.bool (rightB op A B [])) ∧ Below w.heap.size w w' := by
  cases hi : opInfo op with
  | none =>
    rw [show rightB op A B [] = false by unfold rightB; rw [hi]]
    exact right_none op A B _ w hE hop hi
  | some i =>
    obtain ⟨nm, sh, p, r⟩ := i
    obtain ⟨s0, s1⟩ := shape_range hi
    by_cases hb : B ≠ 0 ∧ sh ≠ 5
    · rw [right_bad hi A B [] hb.1 hb.2]
      exact right_b op A B _ nm p r sh w (beq_eq_false_iff_ne.2 hb.1) (beq_eq_false_iff_ne.2 hb.2) hE hop hi
    · have hb2 : B = 0 ∨ sh = 5 := by
        by_cases h0 : B = 0
        · exact .inl h0
        · exact .inr (Classical.byContradiction fun h => hb ⟨h0, h⟩)
      rw [right_tail hi A B hb2]
      by_cases h5 : sh = 5
      · subst h5
        rw [tail_w 5 op A B (by decide) (by decide), ← words2]
        by_cases h0 : B = 0
        · exact right_s5a op A B nm p r w la cp (by simp [h0]) hE hop hi
        · exact right_s5b op A B nm p r w la cp (beq_eq_false_iff_ne.2 h0) hE hop hi
      · obtain rfl : B = 0 := hb2.resolve_right h5
        rcases (show sh = 0 ∨ sh = 1 ∨ sh = 2 ∨ sh = 3 ∨ sh = 4 ∨ sh = 6 ∨ sh = 7 by simp at s0 s1; omega) with rfl | rfl | rfl | rfl | rfl | rfl | rfl
        · rw [tail_0]; exact right_s0 op A nm p r w la cp hE hop hi
        · rw [tail_1]
          cases h1 : (A == 64)
          · cases h2 : (A == 127)
            · exact right_s1c op A nm p r w la cp h1 h2 hE hop hi
            · exact right_s1b op A nm p r w la cp h1 h2 hE hop hi
          · exact right_s1a op A nm p r w la cp h1 hE hop hi
        · rw [tail_w 2 op A 0 (by decide) (by decide), ← words2]; exact right_s2 op A nm p r w la cp hE hop hi
        · rw [tail_w 3 op A 0 (by decide) (by decide), ← words2]; exact right_s3 op A nm p r w la cp hE hop hi
        · rw [tail_w 4 op A 0 (by decide) (by decide), ← words2]; exact right_s4 op A nm p r w la cp hE hop hi
        · rw [tail_6]; exact right_s6 op A nm p r w la cp hE hop hi
        · rw [tail_7]
          cases h1 : (op == 66)
          · exact right_s7b op A nm p r w la cp h1 hE hop hi
          · exact right_s7a op A nm p r w la cp h1 hE hop hi
theorem right_v (op A B : Int) (la : Option Addr) (cp : Nat) (w : World) (hE : OpEnv w) (hop : (Lit.int .i64 op).wf = true) (v : Bool) (hv : rightB op A B [] = v) :
    Calls Tryz.prog 64 #[.agg #[.int .i64 op, .int .i64 A, .int .i64 B, .slice la 0 cp]] w fun e w' => e = .returned (.bool v) ∧ Below w.heap.size w w' := by
  rw [← hv]
  exact right_nil op A B la cp w hE hop
end Go.Proofs.YtmbgemcddjailaaGreatDoor.Op

/- OpRightL: What package op's Right answers where there are labels. No condition beyond what each theorem names. -/
namespace Go.Proofs.YtmbgemcddjailaaGreatDoor.Op
open Go.RowKit Go.Maps
set_option linter.unusedVariables false
def labB (zs : List Int) (A : Int) : Bool := if allWords zs then allWords [A, 0] else false
theorem labB_no {zs : List Int} {A : Int} (h : allWords zs = false) : labB zs A = false := by unfold labB; rw [h]; rfl
theorem labB_yes {zs : List Int} {A : Int} (h : allWords zs = true) : labB zs A = allWords [A, 0] := by unfold labB; rw [h]; rfl
def RelR (w W2 : World) (zs : List Int) (i : Value) (wr : World) : Prop := ∃ k : Nat, k ≤ zs.length ∧ i = .int .i64 k ∧ (∀ j, j < k → wordB (zs.getD j 0) = true) ∧ Below W2.heap.size W2 wr ∧ Below w.heap.size w wr
set_option maxRecDepth 100000 in
set_option maxHeartbeats 2000000 in
theorem right_lab (op A : Int) (zs : List Int) (nm p r : ByteArray) (lb lo cp : Nat) (w : World) (h5 : zs.length ≤ 4096) (h6 : 0 < zs.length) (hlb : lb < w.heap.size) (hz : ∀ j z, zs[j]? = some z → w.cell? ⟨lb, lo + j, none⟩ = some (.int .i64 z)) (hE : OpEnv w) (hop : (Lit.int .i64 op).wf = true) (hi : opInfo op = some ⟨nm, 3, p, r⟩) :
    Calls Tryz.prog 64 #[.agg #[.int .i64 op, .int .i64 A, .int .i64 0, .slice (some ⟨lb, lo, none⟩) zs.length cp]] w fun e w' => e = .returned (.bool (labB zs A)) ∧ Below w.heap.size w w' := by
  have B0 : Below w.heap.size w (w.alloc (.cells #[.int .i64 op, .int .i64 A, .int .i64 0, .slice (some ⟨lb, lo, none⟩) zs.length cp] 29)) := (Below.refl _ _).alloc (Nat.le_refl _) _
  have HE := Lib.hid hE
  have HC := Lib.hid hop
  have HI := Lib.hid hi
  have HZ := Lib.hid hz
  clear hE hop hi hz
  go_enter Tryz.func64, Tryz.ntmps64
  go_wp2_with fail
  refine (of_lit op _ (opEnv_later HE.out B0) HC.out nm p r 3 true (by rw [HI.out]; rfl) (by rw [HI.out]; rfl)).mono ?_
  rintro e w1 ⟨rfl, c1⟩
  have B1 := B0.trans (c1.mono B0.size)
  have s0 : w.heap.size < w1.heap.size := by have := c1.size; simp at this; omega
  have r0 : w1.cell? ⟨w.heap.size, 0, none⟩ = some (.int .i64 op) := cell_later c1 (by simp)
  have r1 : w1.cell? ⟨w.heap.size, 1, none⟩ = some (.int .i64 A) := cell_later c1 (by simp)
  have r2 : w1.cell? ⟨w.heap.size, 2, none⟩ = some (.int .i64 0) := cell_later c1 (by simp)
  have r3 : w1.cell? ⟨w.heap.size, 3, none⟩ = some (.slice (some ⟨lb, lo, none⟩) zs.length cp) := cell_later c1 (by simp)
  clear c1 B0
  have BW := Lib.hid (B1.alloc B1.size (.cells #[.string nm, .int .i64 3, .string p, .string r] 177))
  have T1 := Lib.hid (show (w1.alloc (.cells #[.string nm, .int .i64 3, .string p, .string r] 177)).cell? ⟨w.heap.size, 1, none⟩ = some (.int .i64 A) from (World.cell?_alloc_past _ _ _ s0).trans r1)
  have T2 := Lib.hid (show (w1.alloc (.cells #[.string nm, .int .i64 3, .string p, .string r] 177)).cell? ⟨w.heap.size, 2, none⟩ = some (.int .i64 0) from (World.cell?_alloc_past _ _ _ s0).trans r2)
  have T3 := Lib.hid (show (w1.alloc (.cells #[.string nm, .int .i64 3, .string p, .string r] 177)).cell? ⟨w1.heap.size, 1, none⟩ = some (.int .i64 3) by simp)
  have TS := Lib.hid (show w1.heap.size < (w1.alloc (.cells #[.string nm, .int .i64 3, .string p, .string r] 177)).heap.size by simp)
  go_wp2_with fail
  clear r0 r1 r2 r3
  obtain ⟨W2, hW2⟩ : ∃ W2, w1.alloc (.cells #[.string nm, .int .i64 3, .string p, .string r] 177) = W2 := ⟨_, rfl⟩
  rw [hW2] at BW T1 T2 T3 TS ⊢
  clear hW2 B1
  go_loopw [40] (fun i wr => RelR w W2 zs i wr) (fun i _ => zs.length - (intOf i).toNat)
  case atStart => exact ⟨0, Nat.zero_le _, rfl, fun j hj => by omega, Below.refl _ _, BW.out⟩
  case round =>
    obtain ⟨k, hk, rfl, hpre, hb2, hb⟩ := hrel
    have HP := Lib.hid hpre
    clear hpre
    have u1 : wr.cell? ⟨w.heap.size, 1, none⟩ = some (.int .i64 A) := cell_later hb2 T1.out
    have u2 : wr.cell? ⟨w.heap.size, 2, none⟩ = some (.int .i64 0) := cell_later hb2 T2.out
    have u3 : wr.cell? ⟨w1.heap.size, 1, none⟩ = some (.int .i64 3) := cell_later hb2 T3.out
    have us : w1.heap.size < wr.heap.size := Nat.lt_of_lt_of_le TS.out hb2.size
    by_cases hlt : k < zs.length
    · obtain ⟨z, hz⟩ : ∃ z, zs[k]? = some z := ⟨_, List.getElem?_eq_getElem hlt⟩
      have c0 : wr.cell? ⟨lb, lo + k, none⟩ = some (.int .i64 z) := cell_later hb (HZ.out k z hz)
      have hd : decide (k < zs.length) = true := decide_eq_true hlt
      have HZK := Lib.hid hz
      clear hz
      go_wp2_with fail
      cases hw : wordB z
      · refine (word_any [z] _ 1 _ (by simp) (fun j hj => ?_)).mono ?_
        · obtain rfl : j = 0 := by simp at hj; omega
          rw [World.cell?_alloc_at _ _ _ _ (by simp)]
          rfl
        rintro e w2 ⟨rfl, rfl⟩
        rw [show allWords [z] = false by simp [allWords, hw]]
        have hno : allWords zs = false := by
          unfold allWords
          rw [List.all_eq_false]
          exact ⟨z, List.mem_of_getElem? HZK.out, by simp [hw]⟩
        have HNO := Lib.hid hno
        clear hno hw
        go_wp2_with fail
        go_ret
        rw [labB_no HNO.out]
        exact ⟨rfl, hb.alloc hb.size _⟩
      · refine (word_any [z] _ 1 _ (by simp) (fun j hj => ?_)).mono ?_
        · obtain rfl : j = 0 := by simp at hj; omega
          rw [World.cell?_alloc_at _ _ _ _ (by simp)]
          rfl
        rintro e w2 ⟨rfl, rfl⟩
        rw [show allWords [z] = true by simp [allWords, hw]]
        have HWZ := Lib.hid hw
        clear hw
        go_wp2_with fail
        go_roundw
        case rel => exact ⟨k + 1, by omega, by go_num, fun j hj => by rcases (show j < k ∨ j = k by omega) with h9 | rfl; exact HP.out j h9; rw [List.getD_eq_getElem?_getD, HZK.out]; exact HWZ.out, hb2.alloc hb2.size _, hb.alloc hb.size _⟩
        case measure => simp [intOf]; omega
    · obtain rfl : k = zs.length := by omega
      have hd : decide (zs.length < zs.length) = false := by simp
      have hy : allWords zs = true := by
        unfold allWords
        rw [List.all_eq_true]
        intro x hx
        obtain ⟨j, hj, rfl⟩ := List.getElem_of_mem hx
        have := HP.out j hj
        rw [List.getD_eq_getElem?_getD, List.getElem?_eq_getElem hj] at this
        exact this
      have HY := Lib.hid hy
      clear hy
      go_wp2_with fail
      refine (word_any [A, 0] _ 2 _ (by simp) (fun j hj => ?_)).mono ?_
      · rcases (show j = 0 ∨ j = 1 by simp at hj; omega) with rfl | rfl
        · rw [World.cell?_alloc_at _ _ _ _ (by simp)]
          rfl
        · rw [World.cell?_alloc_at _ _ _ _ (by simp)]
          rfl
      rintro e w2 ⟨rfl, rfl⟩
      go_wp2_with fail
      go_ret
      rw [labB_yes HY.out]
      exact ⟨rfl, hb.alloc hb.size _⟩
/-- Right -/
theorem right_any (op A B : Int) (lv : Value) (zs : List Int) (w : World) (hE : OpEnv w) (hop : (Lit.int .i64 op).wf = true) (hl : IntsAt w lv zs) :
    Calls Tryz.prog 64 #[.agg #[.int .i64 op, .int .i64 A, .int .i64 B, lv]] w fun e w' => e = .returned (.bool (rightB op A B zs)) ∧ Below w.heap.size w w' := by
  rcases hl with ⟨rfl, rfl⟩ | ⟨lb, lo, cp, rfl, hlb, hz⟩ | ⟨la, cp, rfl, rfl⟩
  · exact right_nil op A B none 0 w hE hop
  rotate_left
  · exact right_nil op A B la cp w hE hop
  · by_cases h0 : zs = []
    · subst h0
      exact right_nil op A B (some ⟨lb, lo, none⟩) cp w hE hop
    · have hpos : 0 < zs.length := List.length_pos_iff.2 h0
      cases hi : opInfo op with
      | none =>
        rw [show rightB op A B zs = false by unfold rightB; rw [hi]]
        exact right_none op A B _ w hE hop hi
      | some i =>
        obtain ⟨nm, sh, p, r⟩ := i
        by_cases hb : B ≠ 0 ∧ sh ≠ 5
        · rw [right_bad hi A B zs hb.1 hb.2]
          exact right_b op A B _ nm p r sh w (beq_eq_false_iff_ne.2 hb.1) (beq_eq_false_iff_ne.2 hb.2) hE hop hi
        · have e0 : rightB op A B zs = rightI ⟨nm, sh, p, r⟩ op A B zs := by unfold rightB; rw [hi]
          rw [e0]
          unfold rightI
          rw [if_neg hb]
          by_cases h3 : sh = 3
          · subst h3
            obtain rfl : B = 0 := Classical.byContradiction fun h => hb ⟨h, by decide⟩
            rw [if_neg (by simp)]
            by_cases h4 : 4096 < zs.length
            · rw [if_pos h4]
              exact right_long op A 0 nm p r w lb lo zs.length cp rfl h4 hE hop hi
            · rw [if_neg h4, tail_w 3 op A 0 (by decide) (by decide), ← words2]
              exact right_lab op A zs nm p r lb lo cp w (by omega) hpos hlb hz hE hop hi
          · rw [if_pos ⟨h0, h3⟩]
            by_cases hB : B = 0
            · exact right_l0 op A B nm p r sh w lb lo zs.length cp (by simp [hB]) (beq_eq_false_iff_ne.2 h3) hpos hE hop hi
            · have h5 : sh = 5 := Classical.byContradiction fun h => hb ⟨hB, h⟩
              exact right_l5 op A B nm p r sh w lb lo zs.length cp (beq_eq_false_iff_ne.2 hB) (by simp [h5]) (beq_eq_false_iff_ne.2 h3) hpos hE hop hi
end Go.Proofs.YtmbgemcddjailaaGreatDoor.Op
