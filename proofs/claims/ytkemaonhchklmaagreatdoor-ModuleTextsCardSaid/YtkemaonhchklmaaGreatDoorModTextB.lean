/-
  What package module's Text answers of an instruction without labels. No condition but the instruction's own bounds.
-/
import Derived.Test.YtkemaonhchklmaaGreatDoorModText
namespace Go.Proofs.YtkemaonhchklmaaGreatDoor.Mod
open Go.RowKit Go.Maps Go.Proofs.YtkemaonhchklmaaGreatDoor.Op
set_option linter.unusedVariables false
theorem names_all : (tableL.all fun e => decide (e.2.name.size ≤ 100)) = true := by kernel_rfl
theorem name_short {op : Int} {i : Info} (hi : opInfo op = some i) : i.name.size ≤ 100 := by
  have h := List.all_eq_true.1 names_all _ (opInfo_mem hi)
  simpa using h
theorem say_size (out what : ByteArray) (n : Int) (h0 : -9223372036854775808 ≤ n) (h1 : n ≤ 9223372036854775807) {k : Nat} (ho : out.size ≤ k) (hw : what.size ≤ 100) : (sayB out what n).size ≤ k + 131 := by
  have := Lib.itoa_length_le n h0 h1
  have h2 : (⟨(Lib.itoa n).toArray⟩ : ByteArray).size = (Lib.itoa n).length := by show (Lib.itoa n).toArray.size = _; rw [List.size_toArray]
  unfold sayB
  rw [ByteArray.size_append, ByteArray.size_append, ByteArray.size_append, h2]
  have h3 : (⟨#[32]⟩ : ByteArray).size = 1 := rfl
  omega
set_option maxRecDepth 100000 in
set_option maxHeartbeats 1000000 in
theorem text_no (op a b : Int) (lv : Value) (zs : List Int) (w : World) (hE : OpEnv w) (hop : (Lit.int .i64 op).wf = true) (hl : IntsAt w lv zs) (hr : rightB op a b zs = false) :
    Calls Tryz.prog 12 #[.agg #[.int .i64 op, .int .i64 a, .int .i64 b, lv]] w fun e w' => e = .returned (.tuple #[.string ⟨#[]⟩, .bool false]) ∧ Below w.heap.size w w' := by
  have B0 : Below w.heap.size w (w.alloc (.cells #[.int .i64 op, .int .i64 a, .int .i64 b, lv] 40)) := (Below.refl _ _).alloc (Nat.le_refl _) _
  have h1 := right_any op a b lv zs (w.alloc (.cells #[.int .i64 op, .int .i64 a, .int .i64 b, lv] 40)) (opEnv_later hE B0) hop (intsAt_later hl B0)
  rw [hr] at h1
  clear hr hE hop hl
  go_enter Tryz.func12, Tryz.ntmps12
  go_wp2_with fail
  refine h1.mono ?_
  rintro e w1 ⟨rfl, c1⟩
  go_wp2_with fail
  go_ret2
  exact ⟨rfl, B0.trans (c1.mono B0.size)⟩
set_option maxRecDepth 100000 in
set_option maxHeartbeats 4000000 in
theorem text_s0 (op : Int) (a b : Int) (la : Option Addr) (cp : Nat) (nm p r : ByteArray) (w : World) (hE : OpEnv w) (hP : PowEnv w) (hop : (Lit.int .i64 op).wf = true) (hr : rightB op a b [] = true) (hi : opInfo op = some ⟨nm, 0, p, r⟩) (ha0 : -9223372036854775808 ≤ a) (ha1 : a ≤ 9223372036854775807) (hb0 : -9223372036854775808 ≤ b) (hb1 : b ≤ 9223372036854775807) :
    Calls Tryz.prog 12 #[.agg #[.int .i64 op, .int .i64 a, .int .i64 b, .slice la 0 cp]] w fun e w' => e = .returned (.tuple #[.string (nm), .bool true]) ∧ Below w.heap.size w w' := by
  have hns : nm.size ≤ 100 := name_short hi
  have B0 : Below w.heap.size w (w.alloc (.cells #[.int .i64 op, .int .i64 a, .int .i64 b, .slice la 0 cp] 40)) := (Below.refl _ _).alloc (Nat.le_refl _) _
  have h1 := right_v op a b la cp (w.alloc (.cells #[.int .i64 op, .int .i64 a, .int .i64 b, .slice la 0 cp] 40)) (opEnv_later hE B0) hop true hr
  have HE := Lib.hid hE
  have HP := Lib.hid hP
  have HI := Lib.hid hi
  have HC := Lib.hid hop
  clear hr hE hop hi hP
  go_enter Tryz.func12, Tryz.ntmps12
  go_wp2_with fail
  refine h1.mono ?_
  rintro e w1 ⟨rfl, c1⟩
  have x0 : w1.cell? ⟨w.heap.size, 0, none⟩ = some (.int .i64 op) := cell_later c1 (by simp)
  have X1 := Lib.hid (show w1.cell? ⟨w.heap.size, 1, none⟩ = some (.int .i64 a) from cell_later c1 (by simp))
  have X2 := Lib.hid (show w1.cell? ⟨w.heap.size, 2, none⟩ = some (.int .i64 b) from cell_later c1 (by simp))
  have B1 := B0.trans (c1.mono B0.size)
  have hlt1 : w.heap.size < w1.heap.size := by have := c1.size; simp at this; omega
  clear c1 h1 B0
  go_wp2_with fail
  refine (of_lit op _ (opEnv_later HE.out B1) HC.out nm p r 0 true (by rw [HI.out]; rfl) (by rw [HI.out]; rfl)).mono ?_
  rintro e w2 ⟨rfl, c2⟩
  have B2 := B1.trans (c2.mono B1.size)
  have hlt2 : w.heap.size < w2.heap.size := Nat.lt_of_lt_of_le hlt1 c2.size
  have Y1 := Lib.hid (cell_later c2 X1.out)
  have Y2 := Lib.hid (cell_later c2 X2.out)
  clear c2 x0
  go_upto_region 6 with fail
  obtain ⟨W3, hW3⟩ : ∃ W3, (w2.alloc (.cells #[.string nm, .int .i64 0, .string p, .string r] 75)).alloc (.cells #[.string nm] 9) = W3 := ⟨_, rfl⟩
  have C3 : Below w2.heap.size w2 W3 := by rw [← hW3]; exact ((Below.refl _ _).alloc (Nat.le_refl _) _).alloc (by simp) _
  have z1 : W3.cell? ⟨w2.heap.size, 1, none⟩ = some (.int .i64 0) := by rw [← hW3]; simp
  have hob : W3.heap[w2.heap.size + 1]? = some (.cells #[.string nm] 9 (0, 0)) := by
    rw [← hW3]
    have := heap_alloc_new (w2.alloc (.cells #[.string nm, .int .i64 0, .string p, .string r] 75)) (.cells #[.string nm] 9)
    rw [show (w2.alloc (.cells #[.string nm, .int .i64 0, .string p, .string r] 75)).heap.size = w2.heap.size + 1 by simp] at this
    exact this
  rw [hW3]
  have B3 := Lib.hid (B2.trans (C3.mono B2.size))
  have HOB := Lib.hid hob
  have u1 : W3.cell? ⟨w.heap.size, 1, none⟩ = some (.int .i64 a) := cell_later C3 Y1.out
  have u2 : W3.cell? ⟨w.heap.size, 2, none⟩ = some (.int .i64 b) := cell_later C3 Y2.out
  have U1 := Lib.hid u1
  have U2 := Lib.hid u2
  have hz3 : w2.heap.size + 1 < W3.heap.size := (Array.getElem?_eq_some_iff.1 hob).1
  clear hW3 C3 B2 hob
  have v0 : W3.cell? ⟨w2.heap.size + 1, 0, none⟩ = some (.string nm) := cell_of_row _ _ _ _ _ _ HOB.out
  have f0 : W3.frozen? ⟨w2.heap.size + 1, 0, none⟩ = false := frozen_of_row _ _ _ _ _ HOB.out
  go_wp2_with fail
  go_ret2
  exact ⟨rfl, B3.out⟩
set_option maxRecDepth 100000 in
set_option maxHeartbeats 4000000 in
theorem text_s6 (op : Int) (a b : Int) (la : Option Addr) (cp : Nat) (nm p r : ByteArray) (w : World) (hE : OpEnv w) (hP : PowEnv w) (hop : (Lit.int .i64 op).wf = true) (hr : rightB op a b [] = true) (hi : opInfo op = some ⟨nm, 6, p, r⟩) (ha0 : -9223372036854775808 ≤ a) (ha1 : a ≤ 9223372036854775807) (hb0 : -9223372036854775808 ≤ b) (hb1 : b ≤ 9223372036854775807) :
    Calls Tryz.prog 12 #[.agg #[.int .i64 op, .int .i64 a, .int .i64 b, .slice la 0 cp]] w fun e w' => e = .returned (.tuple #[.string (nm), .bool true]) ∧ Below w.heap.size w w' := by
  have hns : nm.size ≤ 100 := name_short hi
  have B0 : Below w.heap.size w (w.alloc (.cells #[.int .i64 op, .int .i64 a, .int .i64 b, .slice la 0 cp] 40)) := (Below.refl _ _).alloc (Nat.le_refl _) _
  have h1 := right_v op a b la cp (w.alloc (.cells #[.int .i64 op, .int .i64 a, .int .i64 b, .slice la 0 cp] 40)) (opEnv_later hE B0) hop true hr
  have HE := Lib.hid hE
  have HP := Lib.hid hP
  have HI := Lib.hid hi
  have HC := Lib.hid hop
  clear hr hE hop hi hP
  go_enter Tryz.func12, Tryz.ntmps12
  go_wp2_with fail
  refine h1.mono ?_
  rintro e w1 ⟨rfl, c1⟩
  have x0 : w1.cell? ⟨w.heap.size, 0, none⟩ = some (.int .i64 op) := cell_later c1 (by simp)
  have X1 := Lib.hid (show w1.cell? ⟨w.heap.size, 1, none⟩ = some (.int .i64 a) from cell_later c1 (by simp))
  have X2 := Lib.hid (show w1.cell? ⟨w.heap.size, 2, none⟩ = some (.int .i64 b) from cell_later c1 (by simp))
  have B1 := B0.trans (c1.mono B0.size)
  have hlt1 : w.heap.size < w1.heap.size := by have := c1.size; simp at this; omega
  clear c1 h1 B0
  go_wp2_with fail
  refine (of_lit op _ (opEnv_later HE.out B1) HC.out nm p r 6 true (by rw [HI.out]; rfl) (by rw [HI.out]; rfl)).mono ?_
  rintro e w2 ⟨rfl, c2⟩
  have B2 := B1.trans (c2.mono B1.size)
  have hlt2 : w.heap.size < w2.heap.size := Nat.lt_of_lt_of_le hlt1 c2.size
  have Y1 := Lib.hid (cell_later c2 X1.out)
  have Y2 := Lib.hid (cell_later c2 X2.out)
  clear c2 x0
  go_upto_region 6 with fail
  obtain ⟨W3, hW3⟩ : ∃ W3, (w2.alloc (.cells #[.string nm, .int .i64 6, .string p, .string r] 75)).alloc (.cells #[.string nm] 9) = W3 := ⟨_, rfl⟩
  have C3 : Below w2.heap.size w2 W3 := by rw [← hW3]; exact ((Below.refl _ _).alloc (Nat.le_refl _) _).alloc (by simp) _
  have z1 : W3.cell? ⟨w2.heap.size, 1, none⟩ = some (.int .i64 6) := by rw [← hW3]; simp
  have hob : W3.heap[w2.heap.size + 1]? = some (.cells #[.string nm] 9 (0, 0)) := by
    rw [← hW3]
    have := heap_alloc_new (w2.alloc (.cells #[.string nm, .int .i64 6, .string p, .string r] 75)) (.cells #[.string nm] 9)
    rw [show (w2.alloc (.cells #[.string nm, .int .i64 6, .string p, .string r] 75)).heap.size = w2.heap.size + 1 by simp] at this
    exact this
  rw [hW3]
  have B3 := Lib.hid (B2.trans (C3.mono B2.size))
  have HOB := Lib.hid hob
  have u1 : W3.cell? ⟨w.heap.size, 1, none⟩ = some (.int .i64 a) := cell_later C3 Y1.out
  have u2 : W3.cell? ⟨w.heap.size, 2, none⟩ = some (.int .i64 b) := cell_later C3 Y2.out
  have U1 := Lib.hid u1
  have U2 := Lib.hid u2
  have hz3 : w2.heap.size + 1 < W3.heap.size := (Array.getElem?_eq_some_iff.1 hob).1
  clear hW3 C3 B2 hob
  have v0 : W3.cell? ⟨w2.heap.size + 1, 0, none⟩ = some (.string nm) := cell_of_row _ _ _ _ _ _ HOB.out
  have f0 : W3.frozen? ⟨w2.heap.size + 1, 0, none⟩ = false := frozen_of_row _ _ _ _ _ HOB.out
  go_wp2_with fail
  go_ret2
  exact ⟨rfl, B3.out⟩
set_option maxRecDepth 100000 in
set_option maxHeartbeats 4000000 in
theorem text_s2 (op : Int) (a b : Int) (la : Option Addr) (cp : Nat) (nm p r : ByteArray) (w : World) (hE : OpEnv w) (hP : PowEnv w) (hop : (Lit.int .i64 op).wf = true) (hr : rightB op a b [] = true) (hi : opInfo op = some ⟨nm, 2, p, r⟩) (ha0 : -9223372036854775808 ≤ a) (ha1 : a ≤ 9223372036854775807) (hb0 : -9223372036854775808 ≤ b) (hb1 : b ≤ 9223372036854775807) :
    Calls Tryz.prog 12 #[.agg #[.int .i64 op, .int .i64 a, .int .i64 b, .slice la 0 cp]] w fun e w' => e = .returned (.tuple #[.string (sayB (nm) ⟨#[]⟩ a), .bool true]) ∧ Below w.heap.size w w' := by
  have hns : nm.size ≤ 100 := name_short hi
  have B0 : Below w.heap.size w (w.alloc (.cells #[.int .i64 op, .int .i64 a, .int .i64 b, .slice la 0 cp] 40)) := (Below.refl _ _).alloc (Nat.le_refl _) _
  have h1 := right_v op a b la cp (w.alloc (.cells #[.int .i64 op, .int .i64 a, .int .i64 b, .slice la 0 cp] 40)) (opEnv_later hE B0) hop true hr
  have HE := Lib.hid hE
  have HP := Lib.hid hP
  have HI := Lib.hid hi
  have HC := Lib.hid hop
  clear hr hE hop hi hP
  go_enter Tryz.func12, Tryz.ntmps12
  go_wp2_with fail
  refine h1.mono ?_
  rintro e w1 ⟨rfl, c1⟩
  have x0 : w1.cell? ⟨w.heap.size, 0, none⟩ = some (.int .i64 op) := cell_later c1 (by simp)
  have X1 := Lib.hid (show w1.cell? ⟨w.heap.size, 1, none⟩ = some (.int .i64 a) from cell_later c1 (by simp))
  have X2 := Lib.hid (show w1.cell? ⟨w.heap.size, 2, none⟩ = some (.int .i64 b) from cell_later c1 (by simp))
  have B1 := B0.trans (c1.mono B0.size)
  have hlt1 : w.heap.size < w1.heap.size := by have := c1.size; simp at this; omega
  clear c1 h1 B0
  go_wp2_with fail
  refine (of_lit op _ (opEnv_later HE.out B1) HC.out nm p r 2 true (by rw [HI.out]; rfl) (by rw [HI.out]; rfl)).mono ?_
  rintro e w2 ⟨rfl, c2⟩
  have B2 := B1.trans (c2.mono B1.size)
  have hlt2 : w.heap.size < w2.heap.size := Nat.lt_of_lt_of_le hlt1 c2.size
  have Y1 := Lib.hid (cell_later c2 X1.out)
  have Y2 := Lib.hid (cell_later c2 X2.out)
  clear c2 x0
  go_upto_region 6 with fail
  obtain ⟨W3, hW3⟩ : ∃ W3, (w2.alloc (.cells #[.string nm, .int .i64 2, .string p, .string r] 75)).alloc (.cells #[.string nm] 9) = W3 := ⟨_, rfl⟩
  have C3 : Below w2.heap.size w2 W3 := by rw [← hW3]; exact ((Below.refl _ _).alloc (Nat.le_refl _) _).alloc (by simp) _
  have z1 : W3.cell? ⟨w2.heap.size, 1, none⟩ = some (.int .i64 2) := by rw [← hW3]; simp
  have hob : W3.heap[w2.heap.size + 1]? = some (.cells #[.string nm] 9 (0, 0)) := by
    rw [← hW3]
    have := heap_alloc_new (w2.alloc (.cells #[.string nm, .int .i64 2, .string p, .string r] 75)) (.cells #[.string nm] 9)
    rw [show (w2.alloc (.cells #[.string nm, .int .i64 2, .string p, .string r] 75)).heap.size = w2.heap.size + 1 by simp] at this
    exact this
  rw [hW3]
  have B3 := Lib.hid (B2.trans (C3.mono B2.size))
  have HOB := Lib.hid hob
  have u1 : W3.cell? ⟨w.heap.size, 1, none⟩ = some (.int .i64 a) := cell_later C3 Y1.out
  have u2 : W3.cell? ⟨w.heap.size, 2, none⟩ = some (.int .i64 b) := cell_later C3 Y2.out
  have U1 := Lib.hid u1
  have U2 := Lib.hid u2
  have hz3 : w2.heap.size + 1 < W3.heap.size := (Array.getElem?_eq_some_iff.1 hob).1
  clear hW3 C3 B2 hob
  go_wp2_with fail
  refine (say_any nm ⟨#[]⟩ a (w2.heap.size + 1) W3 (HP.out.later B3.out) ha0 ha1 (by omega) (by decide) HOB.out).mono ?_
  rintro e V1 ⟨rfl, hk1, hc1⟩
  have HOB := Lib.hid hc1
  have B3 := Lib.hid (B3.out.trans (hk1.below (B := w.heap.size) (fun k hk => by omega) (B3.out.size)))
  have u1 : V1.cell? ⟨w.heap.size, 1, none⟩ = some (.int .i64 a) := hk1.cell U1.out (by show w.heap.size ≠ w2.heap.size + 1; omega)
  have u2 : V1.cell? ⟨w.heap.size, 2, none⟩ = some (.int .i64 b) := hk1.cell U2.out (by show w.heap.size ≠ w2.heap.size + 1; omega)
  have U1 := Lib.hid u1
  have U2 := Lib.hid u2
  have z1 : V1.cell? ⟨w2.heap.size, 1, none⟩ = some (.int .i64 2) := hk1.cell z1 (by show w2.heap.size ≠ w2.heap.size + 1; omega)
  have v0 : V1.cell? ⟨w2.heap.size + 1, 0, none⟩ = some (.string (sayB (nm) ⟨#[]⟩ a)) := cell_of_row _ _ _ _ _ _ hc1
  have HS := Lib.hid (say_size (nm) ⟨#[]⟩ a ha0 ha1 (show (nm).size ≤ 100 by omega) (by decide))
  clear hk1 hc1
  go_wp2_with fail
  go_ret2
  exact ⟨rfl, B3.out⟩
set_option maxRecDepth 100000 in
set_option maxHeartbeats 4000000 in
theorem text_s4 (op : Int) (a b : Int) (la : Option Addr) (cp : Nat) (nm p r : ByteArray) (w : World) (hE : OpEnv w) (hP : PowEnv w) (hop : (Lit.int .i64 op).wf = true) (hr : rightB op a b [] = true) (hi : opInfo op = some ⟨nm, 4, p, r⟩) (ha0 : -9223372036854775808 ≤ a) (ha1 : a ≤ 9223372036854775807) (hb0 : -9223372036854775808 ≤ b) (hb1 : b ≤ 9223372036854775807) :
    Calls Tryz.prog 12 #[.agg #[.int .i64 op, .int .i64 a, .int .i64 b, .slice la 0 cp]] w fun e w' => e = .returned (.tuple #[.string (sayB (nm) ⟨#[]⟩ a), .bool true]) ∧ Below w.heap.size w w' := by
  have hns : nm.size ≤ 100 := name_short hi
  have B0 : Below w.heap.size w (w.alloc (.cells #[.int .i64 op, .int .i64 a, .int .i64 b, .slice la 0 cp] 40)) := (Below.refl _ _).alloc (Nat.le_refl _) _
  have h1 := right_v op a b la cp (w.alloc (.cells #[.int .i64 op, .int .i64 a, .int .i64 b, .slice la 0 cp] 40)) (opEnv_later hE B0) hop true hr
  have HE := Lib.hid hE
  have HP := Lib.hid hP
  have HI := Lib.hid hi
  have HC := Lib.hid hop
  clear hr hE hop hi hP
  go_enter Tryz.func12, Tryz.ntmps12
  go_wp2_with fail
  refine h1.mono ?_
  rintro e w1 ⟨rfl, c1⟩
  have x0 : w1.cell? ⟨w.heap.size, 0, none⟩ = some (.int .i64 op) := cell_later c1 (by simp)
  have X1 := Lib.hid (show w1.cell? ⟨w.heap.size, 1, none⟩ = some (.int .i64 a) from cell_later c1 (by simp))
  have X2 := Lib.hid (show w1.cell? ⟨w.heap.size, 2, none⟩ = some (.int .i64 b) from cell_later c1 (by simp))
  have B1 := B0.trans (c1.mono B0.size)
  have hlt1 : w.heap.size < w1.heap.size := by have := c1.size; simp at this; omega
  clear c1 h1 B0
  go_wp2_with fail
  refine (of_lit op _ (opEnv_later HE.out B1) HC.out nm p r 4 true (by rw [HI.out]; rfl) (by rw [HI.out]; rfl)).mono ?_
  rintro e w2 ⟨rfl, c2⟩
  have B2 := B1.trans (c2.mono B1.size)
  have hlt2 : w.heap.size < w2.heap.size := Nat.lt_of_lt_of_le hlt1 c2.size
  have Y1 := Lib.hid (cell_later c2 X1.out)
  have Y2 := Lib.hid (cell_later c2 X2.out)
  clear c2 x0
  go_upto_region 6 with fail
  obtain ⟨W3, hW3⟩ : ∃ W3, (w2.alloc (.cells #[.string nm, .int .i64 4, .string p, .string r] 75)).alloc (.cells #[.string nm] 9) = W3 := ⟨_, rfl⟩
  have C3 : Below w2.heap.size w2 W3 := by rw [← hW3]; exact ((Below.refl _ _).alloc (Nat.le_refl _) _).alloc (by simp) _
  have z1 : W3.cell? ⟨w2.heap.size, 1, none⟩ = some (.int .i64 4) := by rw [← hW3]; simp
  have hob : W3.heap[w2.heap.size + 1]? = some (.cells #[.string nm] 9 (0, 0)) := by
    rw [← hW3]
    have := heap_alloc_new (w2.alloc (.cells #[.string nm, .int .i64 4, .string p, .string r] 75)) (.cells #[.string nm] 9)
    rw [show (w2.alloc (.cells #[.string nm, .int .i64 4, .string p, .string r] 75)).heap.size = w2.heap.size + 1 by simp] at this
    exact this
  rw [hW3]
  have B3 := Lib.hid (B2.trans (C3.mono B2.size))
  have HOB := Lib.hid hob
  have u1 : W3.cell? ⟨w.heap.size, 1, none⟩ = some (.int .i64 a) := cell_later C3 Y1.out
  have u2 : W3.cell? ⟨w.heap.size, 2, none⟩ = some (.int .i64 b) := cell_later C3 Y2.out
  have U1 := Lib.hid u1
  have U2 := Lib.hid u2
  have hz3 : w2.heap.size + 1 < W3.heap.size := (Array.getElem?_eq_some_iff.1 hob).1
  clear hW3 C3 B2 hob
  go_wp2_with fail
  refine (say_any nm ⟨#[]⟩ a (w2.heap.size + 1) W3 (HP.out.later B3.out) ha0 ha1 (by omega) (by decide) HOB.out).mono ?_
  rintro e V1 ⟨rfl, hk1, hc1⟩
  have HOB := Lib.hid hc1
  have B3 := Lib.hid (B3.out.trans (hk1.below (B := w.heap.size) (fun k hk => by omega) (B3.out.size)))
  have u1 : V1.cell? ⟨w.heap.size, 1, none⟩ = some (.int .i64 a) := hk1.cell U1.out (by show w.heap.size ≠ w2.heap.size + 1; omega)
  have u2 : V1.cell? ⟨w.heap.size, 2, none⟩ = some (.int .i64 b) := hk1.cell U2.out (by show w.heap.size ≠ w2.heap.size + 1; omega)
  have U1 := Lib.hid u1
  have U2 := Lib.hid u2
  have z1 : V1.cell? ⟨w2.heap.size, 1, none⟩ = some (.int .i64 4) := hk1.cell z1 (by show w2.heap.size ≠ w2.heap.size + 1; omega)
  have v0 : V1.cell? ⟨w2.heap.size + 1, 0, none⟩ = some (.string (sayB (nm) ⟨#[]⟩ a)) := cell_of_row _ _ _ _ _ _ hc1
  have HS := Lib.hid (say_size (nm) ⟨#[]⟩ a ha0 ha1 (show (nm).size ≤ 100 by omega) (by decide))
  clear hk1 hc1
  go_wp2_with fail
  go_ret2
  exact ⟨rfl, B3.out⟩
set_option maxRecDepth 100000 in
set_option maxHeartbeats 4000000 in
theorem text_s7 (op : Int) (a b : Int) (la : Option Addr) (cp : Nat) (nm p r : ByteArray) (w : World) (hE : OpEnv w) (hP : PowEnv w) (hop : (Lit.int .i64 op).wf = true) (hr : rightB op a b [] = true) (hi : opInfo op = some ⟨nm, 7, p, r⟩) (ha0 : -9223372036854775808 ≤ a) (ha1 : a ≤ 9223372036854775807) (hb0 : -9223372036854775808 ≤ b) (hb1 : b ≤ 9223372036854775807) :
    Calls Tryz.prog 12 #[.agg #[.int .i64 op, .int .i64 a, .int .i64 b, .slice la 0 cp]] w fun e w' => e = .returned (.tuple #[.string (sayB (nm) ⟨#[]⟩ a), .bool true]) ∧ Below w.heap.size w w' := by
  have hns : nm.size ≤ 100 := name_short hi
  have B0 : Below w.heap.size w (w.alloc (.cells #[.int .i64 op, .int .i64 a, .int .i64 b, .slice la 0 cp] 40)) := (Below.refl _ _).alloc (Nat.le_refl _) _
  have h1 := right_v op a b la cp (w.alloc (.cells #[.int .i64 op, .int .i64 a, .int .i64 b, .slice la 0 cp] 40)) (opEnv_later hE B0) hop true hr
  have HE := Lib.hid hE
  have HP := Lib.hid hP
  have HI := Lib.hid hi
  have HC := Lib.hid hop
  clear hr hE hop hi hP
  go_enter Tryz.func12, Tryz.ntmps12
  go_wp2_with fail
  refine h1.mono ?_
  rintro e w1 ⟨rfl, c1⟩
  have x0 : w1.cell? ⟨w.heap.size, 0, none⟩ = some (.int .i64 op) := cell_later c1 (by simp)
  have X1 := Lib.hid (show w1.cell? ⟨w.heap.size, 1, none⟩ = some (.int .i64 a) from cell_later c1 (by simp))
  have X2 := Lib.hid (show w1.cell? ⟨w.heap.size, 2, none⟩ = some (.int .i64 b) from cell_later c1 (by simp))
  have B1 := B0.trans (c1.mono B0.size)
  have hlt1 : w.heap.size < w1.heap.size := by have := c1.size; simp at this; omega
  clear c1 h1 B0
  go_wp2_with fail
  refine (of_lit op _ (opEnv_later HE.out B1) HC.out nm p r 7 true (by rw [HI.out]; rfl) (by rw [HI.out]; rfl)).mono ?_
  rintro e w2 ⟨rfl, c2⟩
  have B2 := B1.trans (c2.mono B1.size)
  have hlt2 : w.heap.size < w2.heap.size := Nat.lt_of_lt_of_le hlt1 c2.size
  have Y1 := Lib.hid (cell_later c2 X1.out)
  have Y2 := Lib.hid (cell_later c2 X2.out)
  clear c2 x0
  go_upto_region 6 with fail
  obtain ⟨W3, hW3⟩ : ∃ W3, (w2.alloc (.cells #[.string nm, .int .i64 7, .string p, .string r] 75)).alloc (.cells #[.string nm] 9) = W3 := ⟨_, rfl⟩
  have C3 : Below w2.heap.size w2 W3 := by rw [← hW3]; exact ((Below.refl _ _).alloc (Nat.le_refl _) _).alloc (by simp) _
  have z1 : W3.cell? ⟨w2.heap.size, 1, none⟩ = some (.int .i64 7) := by rw [← hW3]; simp
  have hob : W3.heap[w2.heap.size + 1]? = some (.cells #[.string nm] 9 (0, 0)) := by
    rw [← hW3]
    have := heap_alloc_new (w2.alloc (.cells #[.string nm, .int .i64 7, .string p, .string r] 75)) (.cells #[.string nm] 9)
    rw [show (w2.alloc (.cells #[.string nm, .int .i64 7, .string p, .string r] 75)).heap.size = w2.heap.size + 1 by simp] at this
    exact this
  rw [hW3]
  have B3 := Lib.hid (B2.trans (C3.mono B2.size))
  have HOB := Lib.hid hob
  have u1 : W3.cell? ⟨w.heap.size, 1, none⟩ = some (.int .i64 a) := cell_later C3 Y1.out
  have u2 : W3.cell? ⟨w.heap.size, 2, none⟩ = some (.int .i64 b) := cell_later C3 Y2.out
  have U1 := Lib.hid u1
  have U2 := Lib.hid u2
  have hz3 : w2.heap.size + 1 < W3.heap.size := (Array.getElem?_eq_some_iff.1 hob).1
  clear hW3 C3 B2 hob
  go_wp2_with fail
  refine (say_any nm ⟨#[]⟩ a (w2.heap.size + 1) W3 (HP.out.later B3.out) ha0 ha1 (by omega) (by decide) HOB.out).mono ?_
  rintro e V1 ⟨rfl, hk1, hc1⟩
  have HOB := Lib.hid hc1
  have B3 := Lib.hid (B3.out.trans (hk1.below (B := w.heap.size) (fun k hk => by omega) (B3.out.size)))
  have u1 : V1.cell? ⟨w.heap.size, 1, none⟩ = some (.int .i64 a) := hk1.cell U1.out (by show w.heap.size ≠ w2.heap.size + 1; omega)
  have u2 : V1.cell? ⟨w.heap.size, 2, none⟩ = some (.int .i64 b) := hk1.cell U2.out (by show w.heap.size ≠ w2.heap.size + 1; omega)
  have U1 := Lib.hid u1
  have U2 := Lib.hid u2
  have z1 : V1.cell? ⟨w2.heap.size, 1, none⟩ = some (.int .i64 7) := hk1.cell z1 (by show w2.heap.size ≠ w2.heap.size + 1; omega)
  have v0 : V1.cell? ⟨w2.heap.size + 1, 0, none⟩ = some (.string (sayB (nm) ⟨#[]⟩ a)) := cell_of_row _ _ _ _ _ _ hc1
  have HS := Lib.hid (say_size (nm) ⟨#[]⟩ a ha0 ha1 (show (nm).size ≤ 100 by omega) (by decide))
  clear hk1 hc1
  go_wp2_with fail
  go_ret2
  exact ⟨rfl, B3.out⟩
set_option maxRecDepth 100000 in
set_option maxHeartbeats 4000000 in
theorem text_s5 (op : Int) (a b : Int) (la : Option Addr) (cp : Nat) (nm p r : ByteArray) (w : World) (hE : OpEnv w) (hP : PowEnv w) (hop : (Lit.int .i64 op).wf = true) (hr : rightB op a b [] = true) (hi : opInfo op = some ⟨nm, 5, p, r⟩) (ha0 : -9223372036854775808 ≤ a) (ha1 : a ≤ 9223372036854775807) (hb0 : -9223372036854775808 ≤ b) (hb1 : b ≤ 9223372036854775807) :
    Calls Tryz.prog 12 #[.agg #[.int .i64 op, .int .i64 a, .int .i64 b, .slice la 0 cp]] w fun e w' => e = .returned (.tuple #[.string (sayB (sayB (nm) ⟨#[111, 102, 102, 115, 101, 116, 61]⟩ b) ⟨#[97, 108, 105, 103, 110, 61]⟩ a), .bool true]) ∧ Below w.heap.size w w' := by
  have hns : nm.size ≤ 100 := name_short hi
  have B0 : Below w.heap.size w (w.alloc (.cells #[.int .i64 op, .int .i64 a, .int .i64 b, .slice la 0 cp] 40)) := (Below.refl _ _).alloc (Nat.le_refl _) _
  have h1 := right_v op a b la cp (w.alloc (.cells #[.int .i64 op, .int .i64 a, .int .i64 b, .slice la 0 cp] 40)) (opEnv_later hE B0) hop true hr
  have HE := Lib.hid hE
  have HP := Lib.hid hP
  have HI := Lib.hid hi
  have HC := Lib.hid hop
  clear hr hE hop hi hP
  go_enter Tryz.func12, Tryz.ntmps12
  go_wp2_with fail
  refine h1.mono ?_
  rintro e w1 ⟨rfl, c1⟩
  have x0 : w1.cell? ⟨w.heap.size, 0, none⟩ = some (.int .i64 op) := cell_later c1 (by simp)
  have X1 := Lib.hid (show w1.cell? ⟨w.heap.size, 1, none⟩ = some (.int .i64 a) from cell_later c1 (by simp))
  have X2 := Lib.hid (show w1.cell? ⟨w.heap.size, 2, none⟩ = some (.int .i64 b) from cell_later c1 (by simp))
  have B1 := B0.trans (c1.mono B0.size)
  have hlt1 : w.heap.size < w1.heap.size := by have := c1.size; simp at this; omega
  clear c1 h1 B0
  go_wp2_with fail
  refine (of_lit op _ (opEnv_later HE.out B1) HC.out nm p r 5 true (by rw [HI.out]; rfl) (by rw [HI.out]; rfl)).mono ?_
  rintro e w2 ⟨rfl, c2⟩
  have B2 := B1.trans (c2.mono B1.size)
  have hlt2 : w.heap.size < w2.heap.size := Nat.lt_of_lt_of_le hlt1 c2.size
  have Y1 := Lib.hid (cell_later c2 X1.out)
  have Y2 := Lib.hid (cell_later c2 X2.out)
  clear c2 x0
  go_upto_region 6 with fail
  obtain ⟨W3, hW3⟩ : ∃ W3, (w2.alloc (.cells #[.string nm, .int .i64 5, .string p, .string r] 75)).alloc (.cells #[.string nm] 9) = W3 := ⟨_, rfl⟩
  have C3 : Below w2.heap.size w2 W3 := by rw [← hW3]; exact ((Below.refl _ _).alloc (Nat.le_refl _) _).alloc (by simp) _
  have z1 : W3.cell? ⟨w2.heap.size, 1, none⟩ = some (.int .i64 5) := by rw [← hW3]; simp
  have hob : W3.heap[w2.heap.size + 1]? = some (.cells #[.string nm] 9 (0, 0)) := by
    rw [← hW3]
    have := heap_alloc_new (w2.alloc (.cells #[.string nm, .int .i64 5, .string p, .string r] 75)) (.cells #[.string nm] 9)
    rw [show (w2.alloc (.cells #[.string nm, .int .i64 5, .string p, .string r] 75)).heap.size = w2.heap.size + 1 by simp] at this
    exact this
  rw [hW3]
  have B3 := Lib.hid (B2.trans (C3.mono B2.size))
  have HOB := Lib.hid hob
  have u1 : W3.cell? ⟨w.heap.size, 1, none⟩ = some (.int .i64 a) := cell_later C3 Y1.out
  have u2 : W3.cell? ⟨w.heap.size, 2, none⟩ = some (.int .i64 b) := cell_later C3 Y2.out
  have U1 := Lib.hid u1
  have U2 := Lib.hid u2
  have hz3 : w2.heap.size + 1 < W3.heap.size := (Array.getElem?_eq_some_iff.1 hob).1
  clear hW3 C3 B2 hob
  go_wp2_with fail
  refine (say_any nm ⟨#[111, 102, 102, 115, 101, 116, 61]⟩ b (w2.heap.size + 1) W3 (HP.out.later B3.out) hb0 hb1 (by omega) (by decide) HOB.out).mono ?_
  rintro e V1 ⟨rfl, hk1, hc1⟩
  have HOB := Lib.hid hc1
  have B3 := Lib.hid (B3.out.trans (hk1.below (B := w.heap.size) (fun k hk => by omega) (B3.out.size)))
  have u1 : V1.cell? ⟨w.heap.size, 1, none⟩ = some (.int .i64 a) := hk1.cell U1.out (by show w.heap.size ≠ w2.heap.size + 1; omega)
  have u2 : V1.cell? ⟨w.heap.size, 2, none⟩ = some (.int .i64 b) := hk1.cell U2.out (by show w.heap.size ≠ w2.heap.size + 1; omega)
  have U1 := Lib.hid u1
  have U2 := Lib.hid u2
  have z1 : V1.cell? ⟨w2.heap.size, 1, none⟩ = some (.int .i64 5) := hk1.cell z1 (by show w2.heap.size ≠ w2.heap.size + 1; omega)
  have v0 : V1.cell? ⟨w2.heap.size + 1, 0, none⟩ = some (.string (sayB (nm) ⟨#[111, 102, 102, 115, 101, 116, 61]⟩ b)) := cell_of_row _ _ _ _ _ _ hc1
  have HS := Lib.hid (say_size (nm) ⟨#[111, 102, 102, 115, 101, 116, 61]⟩ b hb0 hb1 (show (nm).size ≤ 100 by omega) (by decide))
  clear hk1 hc1
  go_wp2_with fail
  refine (say_any (sayB (nm) ⟨#[111, 102, 102, 115, 101, 116, 61]⟩ b) ⟨#[97, 108, 105, 103, 110, 61]⟩ a (w2.heap.size + 1) V1 (HP.out.later B3.out) ha0 ha1 (by have := HS.out; omega) (by decide) HOB.out).mono ?_
  rintro e V2 ⟨rfl, hk2, hc2⟩
  have HOB := Lib.hid hc2
  have B3 := Lib.hid (B3.out.trans (hk2.below (B := w.heap.size) (fun k hk => by omega) (B3.out.size)))
  have u1 : V2.cell? ⟨w.heap.size, 1, none⟩ = some (.int .i64 a) := hk2.cell U1.out (by show w.heap.size ≠ w2.heap.size + 1; omega)
  have u2 : V2.cell? ⟨w.heap.size, 2, none⟩ = some (.int .i64 b) := hk2.cell U2.out (by show w.heap.size ≠ w2.heap.size + 1; omega)
  have U1 := Lib.hid u1
  have U2 := Lib.hid u2
  have z1 : V2.cell? ⟨w2.heap.size, 1, none⟩ = some (.int .i64 5) := hk2.cell z1 (by show w2.heap.size ≠ w2.heap.size + 1; omega)
  have v0 : V2.cell? ⟨w2.heap.size + 1, 0, none⟩ = some (.string (sayB (sayB (nm) ⟨#[111, 102, 102, 115, 101, 116, 61]⟩ b) ⟨#[97, 108, 105, 103, 110, 61]⟩ a)) := cell_of_row _ _ _ _ _ _ hc2
  have HS := Lib.hid (say_size (sayB (nm) ⟨#[111, 102, 102, 115, 101, 116, 61]⟩ b) ⟨#[97, 108, 105, 103, 110, 61]⟩ a ha0 ha1 (show (sayB (nm) ⟨#[111, 102, 102, 115, 101, 116, 61]⟩ b).size ≤ 300 by have := HS.out; omega) (by decide))
  clear hk2 hc2
  go_wp2_with fail
  go_ret2
  exact ⟨rfl, B3.out⟩
set_option maxRecDepth 100000 in
set_option maxHeartbeats 4000000 in
theorem text_s1a (op : Int) (b : Int) (la : Option Addr) (cp : Nat) (nm p r : ByteArray) (w : World) (hE : OpEnv w) (hP : PowEnv w) (hop : (Lit.int .i64 op).wf = true) (hr : rightB op 127 b [] = true) (hi : opInfo op = some ⟨nm, 1, p, r⟩) (hb0 : -9223372036854775808 ≤ b) (hb1 : b ≤ 9223372036854775807) :
    Calls Tryz.prog 12 #[.agg #[.int .i64 op, .int .i64 127, .int .i64 b, .slice la 0 cp]] w fun e w' => e = .returned (.tuple #[.string ((nm ++ ⟨#[32, 105, 51, 50]⟩)), .bool true]) ∧ Below w.heap.size w w' := by
  have hns : nm.size ≤ 100 := name_short hi
  have B0 : Below w.heap.size w (w.alloc (.cells #[.int .i64 op, .int .i64 127, .int .i64 b, .slice la 0 cp] 40)) := (Below.refl _ _).alloc (Nat.le_refl _) _
  have h1 := right_v op 127 b la cp (w.alloc (.cells #[.int .i64 op, .int .i64 127, .int .i64 b, .slice la 0 cp] 40)) (opEnv_later hE B0) hop true hr
  have HE := Lib.hid hE
  have HP := Lib.hid hP
  have HI := Lib.hid hi
  have HC := Lib.hid hop
  clear hr hE hop hi hP
  go_enter Tryz.func12, Tryz.ntmps12
  go_wp2_with fail
  refine h1.mono ?_
  rintro e w1 ⟨rfl, c1⟩
  have x0 : w1.cell? ⟨w.heap.size, 0, none⟩ = some (.int .i64 op) := cell_later c1 (by simp)
  have X1 := Lib.hid (show w1.cell? ⟨w.heap.size, 1, none⟩ = some (.int .i64 127) from cell_later c1 (by simp))
  have X2 := Lib.hid (show w1.cell? ⟨w.heap.size, 2, none⟩ = some (.int .i64 b) from cell_later c1 (by simp))
  have B1 := B0.trans (c1.mono B0.size)
  have hlt1 : w.heap.size < w1.heap.size := by have := c1.size; simp at this; omega
  clear c1 h1 B0
  go_wp2_with fail
  refine (of_lit op _ (opEnv_later HE.out B1) HC.out nm p r 1 true (by rw [HI.out]; rfl) (by rw [HI.out]; rfl)).mono ?_
  rintro e w2 ⟨rfl, c2⟩
  have B2 := B1.trans (c2.mono B1.size)
  have hlt2 : w.heap.size < w2.heap.size := Nat.lt_of_lt_of_le hlt1 c2.size
  have Y1 := Lib.hid (cell_later c2 X1.out)
  have Y2 := Lib.hid (cell_later c2 X2.out)
  clear c2 x0
  go_upto_region 6 with fail
  obtain ⟨W3, hW3⟩ : ∃ W3, (w2.alloc (.cells #[.string nm, .int .i64 1, .string p, .string r] 75)).alloc (.cells #[.string nm] 9) = W3 := ⟨_, rfl⟩
  have C3 : Below w2.heap.size w2 W3 := by rw [← hW3]; exact ((Below.refl _ _).alloc (Nat.le_refl _) _).alloc (by simp) _
  have z1 : W3.cell? ⟨w2.heap.size, 1, none⟩ = some (.int .i64 1) := by rw [← hW3]; simp
  have hob : W3.heap[w2.heap.size + 1]? = some (.cells #[.string nm] 9 (0, 0)) := by
    rw [← hW3]
    have := heap_alloc_new (w2.alloc (.cells #[.string nm, .int .i64 1, .string p, .string r] 75)) (.cells #[.string nm] 9)
    rw [show (w2.alloc (.cells #[.string nm, .int .i64 1, .string p, .string r] 75)).heap.size = w2.heap.size + 1 by simp] at this
    exact this
  rw [hW3]
  have B3 := Lib.hid (B2.trans (C3.mono B2.size))
  have HOB := Lib.hid hob
  have u1 : W3.cell? ⟨w.heap.size, 1, none⟩ = some (.int .i64 127) := cell_later C3 Y1.out
  have u2 : W3.cell? ⟨w.heap.size, 2, none⟩ = some (.int .i64 b) := cell_later C3 Y2.out
  have U1 := Lib.hid u1
  have U2 := Lib.hid u2
  have hz3 : w2.heap.size + 1 < W3.heap.size := (Array.getElem?_eq_some_iff.1 hob).1
  clear hW3 C3 B2 hob
  have v0 : W3.cell? ⟨w2.heap.size + 1, 0, none⟩ = some (.string nm) := cell_of_row _ _ _ _ _ _ HOB.out
  have f0 : W3.frozen? ⟨w2.heap.size + 1, 0, none⟩ = false := frozen_of_row _ _ _ _ _ HOB.out
  go_wp2_with fail
  go_ret2
  exact ⟨rfl, B3.out.setCell (p := ⟨w2.heap.size + 1, 0, none⟩) (by show w.heap.size ≤ w2.heap.size + 1; omega) _⟩
set_option maxRecDepth 100000 in
set_option maxHeartbeats 4000000 in
theorem text_s1b (op : Int) (b : Int) (la : Option Addr) (cp : Nat) (nm p r : ByteArray) (w : World) (hE : OpEnv w) (hP : PowEnv w) (hop : (Lit.int .i64 op).wf = true) (hr : rightB op 126 b [] = true) (hi : opInfo op = some ⟨nm, 1, p, r⟩) (hb0 : -9223372036854775808 ≤ b) (hb1 : b ≤ 9223372036854775807) :
    Calls Tryz.prog 12 #[.agg #[.int .i64 op, .int .i64 126, .int .i64 b, .slice la 0 cp]] w fun e w' => e = .returned (.tuple #[.string ((nm ++ ⟨#[32, 105, 54, 52]⟩)), .bool true]) ∧ Below w.heap.size w w' := by
  have hns : nm.size ≤ 100 := name_short hi
  have B0 : Below w.heap.size w (w.alloc (.cells #[.int .i64 op, .int .i64 126, .int .i64 b, .slice la 0 cp] 40)) := (Below.refl _ _).alloc (Nat.le_refl _) _
  have h1 := right_v op 126 b la cp (w.alloc (.cells #[.int .i64 op, .int .i64 126, .int .i64 b, .slice la 0 cp] 40)) (opEnv_later hE B0) hop true hr
  have HE := Lib.hid hE
  have HP := Lib.hid hP
  have HI := Lib.hid hi
  have HC := Lib.hid hop
  clear hr hE hop hi hP
  go_enter Tryz.func12, Tryz.ntmps12
  go_wp2_with fail
  refine h1.mono ?_
  rintro e w1 ⟨rfl, c1⟩
  have x0 : w1.cell? ⟨w.heap.size, 0, none⟩ = some (.int .i64 op) := cell_later c1 (by simp)
  have X1 := Lib.hid (show w1.cell? ⟨w.heap.size, 1, none⟩ = some (.int .i64 126) from cell_later c1 (by simp))
  have X2 := Lib.hid (show w1.cell? ⟨w.heap.size, 2, none⟩ = some (.int .i64 b) from cell_later c1 (by simp))
  have B1 := B0.trans (c1.mono B0.size)
  have hlt1 : w.heap.size < w1.heap.size := by have := c1.size; simp at this; omega
  clear c1 h1 B0
  go_wp2_with fail
  refine (of_lit op _ (opEnv_later HE.out B1) HC.out nm p r 1 true (by rw [HI.out]; rfl) (by rw [HI.out]; rfl)).mono ?_
  rintro e w2 ⟨rfl, c2⟩
  have B2 := B1.trans (c2.mono B1.size)
  have hlt2 : w.heap.size < w2.heap.size := Nat.lt_of_lt_of_le hlt1 c2.size
  have Y1 := Lib.hid (cell_later c2 X1.out)
  have Y2 := Lib.hid (cell_later c2 X2.out)
  clear c2 x0
  go_upto_region 6 with fail
  obtain ⟨W3, hW3⟩ : ∃ W3, (w2.alloc (.cells #[.string nm, .int .i64 1, .string p, .string r] 75)).alloc (.cells #[.string nm] 9) = W3 := ⟨_, rfl⟩
  have C3 : Below w2.heap.size w2 W3 := by rw [← hW3]; exact ((Below.refl _ _).alloc (Nat.le_refl _) _).alloc (by simp) _
  have z1 : W3.cell? ⟨w2.heap.size, 1, none⟩ = some (.int .i64 1) := by rw [← hW3]; simp
  have hob : W3.heap[w2.heap.size + 1]? = some (.cells #[.string nm] 9 (0, 0)) := by
    rw [← hW3]
    have := heap_alloc_new (w2.alloc (.cells #[.string nm, .int .i64 1, .string p, .string r] 75)) (.cells #[.string nm] 9)
    rw [show (w2.alloc (.cells #[.string nm, .int .i64 1, .string p, .string r] 75)).heap.size = w2.heap.size + 1 by simp] at this
    exact this
  rw [hW3]
  have B3 := Lib.hid (B2.trans (C3.mono B2.size))
  have HOB := Lib.hid hob
  have u1 : W3.cell? ⟨w.heap.size, 1, none⟩ = some (.int .i64 126) := cell_later C3 Y1.out
  have u2 : W3.cell? ⟨w.heap.size, 2, none⟩ = some (.int .i64 b) := cell_later C3 Y2.out
  have U1 := Lib.hid u1
  have U2 := Lib.hid u2
  have hz3 : w2.heap.size + 1 < W3.heap.size := (Array.getElem?_eq_some_iff.1 hob).1
  clear hW3 C3 B2 hob
  have v0 : W3.cell? ⟨w2.heap.size + 1, 0, none⟩ = some (.string nm) := cell_of_row _ _ _ _ _ _ HOB.out
  have f0 : W3.frozen? ⟨w2.heap.size + 1, 0, none⟩ = false := frozen_of_row _ _ _ _ _ HOB.out
  go_wp2_with fail
  go_ret2
  exact ⟨rfl, B3.out.setCell (p := ⟨w2.heap.size + 1, 0, none⟩) (by show w.heap.size ≤ w2.heap.size + 1; omega) _⟩
set_option maxRecDepth 100000 in
set_option maxHeartbeats 4000000 in
theorem text_s1c (op : Int) (b : Int) (la : Option Addr) (cp : Nat) (nm p r : ByteArray) (w : World) (hE : OpEnv w) (hP : PowEnv w) (hop : (Lit.int .i64 op).wf = true) (hr : rightB op 64 b [] = true) (hi : opInfo op = some ⟨nm, 1, p, r⟩) (hb0 : -9223372036854775808 ≤ b) (hb1 : b ≤ 9223372036854775807) :
    Calls Tryz.prog 12 #[.agg #[.int .i64 op, .int .i64 64, .int .i64 b, .slice la 0 cp]] w fun e w' => e = .returned (.tuple #[.string (nm), .bool true]) ∧ Below w.heap.size w w' := by
  have hns : nm.size ≤ 100 := name_short hi
  have B0 : Below w.heap.size w (w.alloc (.cells #[.int .i64 op, .int .i64 64, .int .i64 b, .slice la 0 cp] 40)) := (Below.refl _ _).alloc (Nat.le_refl _) _
  have h1 := right_v op 64 b la cp (w.alloc (.cells #[.int .i64 op, .int .i64 64, .int .i64 b, .slice la 0 cp] 40)) (opEnv_later hE B0) hop true hr
  have HE := Lib.hid hE
  have HP := Lib.hid hP
  have HI := Lib.hid hi
  have HC := Lib.hid hop
  clear hr hE hop hi hP
  go_enter Tryz.func12, Tryz.ntmps12
  go_wp2_with fail
  refine h1.mono ?_
  rintro e w1 ⟨rfl, c1⟩
  have x0 : w1.cell? ⟨w.heap.size, 0, none⟩ = some (.int .i64 op) := cell_later c1 (by simp)
  have X1 := Lib.hid (show w1.cell? ⟨w.heap.size, 1, none⟩ = some (.int .i64 64) from cell_later c1 (by simp))
  have X2 := Lib.hid (show w1.cell? ⟨w.heap.size, 2, none⟩ = some (.int .i64 b) from cell_later c1 (by simp))
  have B1 := B0.trans (c1.mono B0.size)
  have hlt1 : w.heap.size < w1.heap.size := by have := c1.size; simp at this; omega
  clear c1 h1 B0
  go_wp2_with fail
  refine (of_lit op _ (opEnv_later HE.out B1) HC.out nm p r 1 true (by rw [HI.out]; rfl) (by rw [HI.out]; rfl)).mono ?_
  rintro e w2 ⟨rfl, c2⟩
  have B2 := B1.trans (c2.mono B1.size)
  have hlt2 : w.heap.size < w2.heap.size := Nat.lt_of_lt_of_le hlt1 c2.size
  have Y1 := Lib.hid (cell_later c2 X1.out)
  have Y2 := Lib.hid (cell_later c2 X2.out)
  clear c2 x0
  go_upto_region 6 with fail
  obtain ⟨W3, hW3⟩ : ∃ W3, (w2.alloc (.cells #[.string nm, .int .i64 1, .string p, .string r] 75)).alloc (.cells #[.string nm] 9) = W3 := ⟨_, rfl⟩
  have C3 : Below w2.heap.size w2 W3 := by rw [← hW3]; exact ((Below.refl _ _).alloc (Nat.le_refl _) _).alloc (by simp) _
  have z1 : W3.cell? ⟨w2.heap.size, 1, none⟩ = some (.int .i64 1) := by rw [← hW3]; simp
  have hob : W3.heap[w2.heap.size + 1]? = some (.cells #[.string nm] 9 (0, 0)) := by
    rw [← hW3]
    have := heap_alloc_new (w2.alloc (.cells #[.string nm, .int .i64 1, .string p, .string r] 75)) (.cells #[.string nm] 9)
    rw [show (w2.alloc (.cells #[.string nm, .int .i64 1, .string p, .string r] 75)).heap.size = w2.heap.size + 1 by simp] at this
    exact this
  rw [hW3]
  have B3 := Lib.hid (B2.trans (C3.mono B2.size))
  have HOB := Lib.hid hob
  have u1 : W3.cell? ⟨w.heap.size, 1, none⟩ = some (.int .i64 64) := cell_later C3 Y1.out
  have u2 : W3.cell? ⟨w.heap.size, 2, none⟩ = some (.int .i64 b) := cell_later C3 Y2.out
  have U1 := Lib.hid u1
  have U2 := Lib.hid u2
  have hz3 : w2.heap.size + 1 < W3.heap.size := (Array.getElem?_eq_some_iff.1 hob).1
  clear hW3 C3 B2 hob
  have v0 : W3.cell? ⟨w2.heap.size + 1, 0, none⟩ = some (.string nm) := cell_of_row _ _ _ _ _ _ HOB.out
  have f0 : W3.frozen? ⟨w2.heap.size + 1, 0, none⟩ = false := frozen_of_row _ _ _ _ _ HOB.out
  go_wp2_with fail
  go_ret2
  exact ⟨rfl, B3.out⟩
end Go.Proofs.YtkemaonhchklmaaGreatDoor.Mod
