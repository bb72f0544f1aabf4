/-
  The reference's Compare and Order of chapter 10. No condition beyond what each theorem names.
-/
import Derived.Test.YtekpdcofjhdiiaaGreatDoorValRC
import Derived.Test.YtekpdcofjhdiiaaGreatDoorRegTake
namespace Go.Proofs.YtekpdcofjhdiiaaGreatDoor.Val
open Go.RowKit Go.Maps Go.Lib
set_option linter.unusedVariables false
set_option linter.unusedSimpArgs false
theorem bj {w w1 w2 : World} (C : Below w.heap.size w w1) (c : Below w1.heap.size w1 w2) : Below w.heap.size w w2 := C.trans (c.mono C.size)
theorem ba {w w1 : World} (C : Below w.heap.size w w1) (o : Obj) : Below w.heap.size w (w1.alloc o) := C.alloc C.size o
theorem past1 {w : World} (o : Obj) {b j : Nat} {v : Value} (h : w.cell? ⟨b, j, none⟩ = some v) : (w.alloc o).cell? ⟨b, j, none⟩ = some v := (World.cell?_alloc_past _ _ _ (World.block_lt_of_cell? _ _ h)).trans h
theorem below0 (w : World) : Below w.heap.size w w := ⟨rfl, rfl, rfl, Nat.le_refl _, fun _ _ => rfl⟩
structure RNum (k : Int) (b : Bool) : Prop where
  h : (k == 1 || k == 2) = b
theorem rnum_r (k s : Int) (b : Bool) (K : RNum k b) (W : World) : Calls Tryz.prog 35 #[.agg #[.int .i64 k, .int .i64 s]] W (BoolS W b) := by
  have := rnum_any k s W
  rw [K.h] at this
  exact this
abbrev HeldRC (w : World) (xn : Bool) (xv : Int) (xs : ByteArray) (yn : Bool) (yv : Int) (ys : ByteArray) (ka sa kb sb : Int) (W : World) : Prop :=
  W.cell? ⟨w.heap.size, 0, none⟩ = some (.bool xn) ∧ W.cell? ⟨w.heap.size, 1, none⟩ = some (.int .i64 xv) ∧ W.cell? ⟨w.heap.size, 2, none⟩ = some (.string xs)
  ∧ W.cell? ⟨w.heap.size + 1, 0, none⟩ = some (.bool yn) ∧ W.cell? ⟨w.heap.size + 1, 1, none⟩ = some (.int .i64 yv) ∧ W.cell? ⟨w.heap.size + 1, 2, none⟩ = some (.string ys)
  ∧ W.cell? ⟨w.heap.size + 1 + 1, 0, none⟩ = some (.int .i64 ka) ∧ W.cell? ⟨w.heap.size + 1 + 1, 1, none⟩ = some (.int .i64 sa)
  ∧ W.cell? ⟨w.heap.size + 1 + 1 + 1, 0, none⟩ = some (.int .i64 kb) ∧ W.cell? ⟨w.heap.size + 1 + 1 + 1, 1, none⟩ = some (.int .i64 sb) ∧ Below w.heap.size w W
theorem heldRC_later {w : World} {xn : Bool} {xv : Int} {xs : ByteArray} {yn : Bool} {yv : Int} {ys : ByteArray} {ka sa kb sb : Int} {W W' : World} (c : Below W.heap.size W W') (h : HeldRC w xn xv xs yn yv ys ka sa kb sb W) : HeldRC w xn xv xs yn yv ys ka sa kb sb W' := by
  obtain ⟨h0, h1, h2, h3, h4, h5, h6, h7, h8, h9, h10⟩ := h
  exact ⟨cell_later c h0, cell_later c h1, cell_later c h2, cell_later c h3, cell_later c h4, cell_later c h5, cell_later c h6, cell_later c h7, cell_later c h8, cell_later c h9, h10.trans (c.mono h10.size)⟩
def PaK (n k q r : Int) : Prop := ∀ W, Calls Tryz.prog 37 #[.int .i64 n, .int .i64 k] W fun e w' => e = .returned (.tuple #[.int .i64 q, .int .i64 r]) ∧ Below W.heap.size W w'


set_option maxRecDepth 100000 in
set_option maxHeartbeats 4000000 in
theorem rcmp_no_x (xn yn : Bool) (xv yv ka sa kb sb : Int) (xs ys : ByteArray) (f2 : Bool) (h1 : fitsB ⟨ka, sa⟩ false ⟨xn, xv, xs⟩ = false) (h2 : fitsB ⟨kb, sb⟩ false ⟨yn, yv, ys⟩ = f2) (w : World) : Calls Tryz.prog 8 #[.agg #[.bool xn, .int .i64 xv, .string xs], .agg #[.bool yn, .int .i64 yv, .string ys], .agg #[.int .i64 ka, .int .i64 sa], .agg #[.int .i64 kb, .int .i64 sb]] w fun e w' => e = .returned (.tuple #[.int .i64 0, .bool false]) ∧ Below w.heap.size w w' := by
  have H1 := Lib.hid h1
  have H2 := Lib.hid h2
  clear h1 h2
  have C := Lib.hid (below0 w)
  have qx_0 : (w.alloc (.cells #[.bool xn, .int .i64 xv, .string xs] 23)).cell? ⟨w.heap.size, 0, none⟩ = some (.bool xn) := World.cell?_alloc_at _ _ _ _ (rfl)
  have qx_1 : (w.alloc (.cells #[.bool xn, .int .i64 xv, .string xs] 23)).cell? ⟨w.heap.size, 1, none⟩ = some (.int .i64 xv) := World.cell?_alloc_at _ _ _ _ (rfl)
  have qx_2 : (w.alloc (.cells #[.bool xn, .int .i64 xv, .string xs] 23)).cell? ⟨w.heap.size, 2, none⟩ = some (.string xs) := World.cell?_alloc_at _ _ _ _ (rfl)
  replace C := Lib.hid (ba C.out (.cells #[.bool xn, .int .i64 xv, .string xs] 23))
  replace qx_0 : ((w.alloc (.cells #[.bool xn, .int .i64 xv, .string xs] 23)).alloc (.cells #[.bool yn, .int .i64 yv, .string ys] 23)).cell? ⟨w.heap.size, 0, none⟩ = some (.bool xn) := past1 _ qx_0
  replace qx_1 : ((w.alloc (.cells #[.bool xn, .int .i64 xv, .string xs] 23)).alloc (.cells #[.bool yn, .int .i64 yv, .string ys] 23)).cell? ⟨w.heap.size, 1, none⟩ = some (.int .i64 xv) := past1 _ qx_1
  replace qx_2 : ((w.alloc (.cells #[.bool xn, .int .i64 xv, .string xs] 23)).alloc (.cells #[.bool yn, .int .i64 yv, .string ys] 23)).cell? ⟨w.heap.size, 2, none⟩ = some (.string xs) := past1 _ qx_2
  have qy_0 : ((w.alloc (.cells #[.bool xn, .int .i64 xv, .string xs] 23)).alloc (.cells #[.bool yn, .int .i64 yv, .string ys] 23)).cell? ⟨w.heap.size + 1, 0, none⟩ = some (.bool yn) := World.cell?_alloc_at _ _ _ _ (by simp)
  have qy_1 : ((w.alloc (.cells #[.bool xn, .int .i64 xv, .string xs] 23)).alloc (.cells #[.bool yn, .int .i64 yv, .string ys] 23)).cell? ⟨w.heap.size + 1, 1, none⟩ = some (.int .i64 yv) := World.cell?_alloc_at _ _ _ _ (by simp)
  have qy_2 : ((w.alloc (.cells #[.bool xn, .int .i64 xv, .string xs] 23)).alloc (.cells #[.bool yn, .int .i64 yv, .string ys] 23)).cell? ⟨w.heap.size + 1, 2, none⟩ = some (.string ys) := World.cell?_alloc_at _ _ _ _ (by simp)
  replace C := Lib.hid (ba C.out (.cells #[.bool yn, .int .i64 yv, .string ys] 23))
  replace qx_0 : (((w.alloc (.cells #[.bool xn, .int .i64 xv, .string xs] 23)).alloc (.cells #[.bool yn, .int .i64 yv, .string ys] 23)).alloc (.cells #[.int .i64 ka, .int .i64 sa] 25)).cell? ⟨w.heap.size, 0, none⟩ = some (.bool xn) := past1 _ qx_0
  replace qx_1 : (((w.alloc (.cells #[.bool xn, .int .i64 xv, .string xs] 23)).alloc (.cells #[.bool yn, .int .i64 yv, .string ys] 23)).alloc (.cells #[.int .i64 ka, .int .i64 sa] 25)).cell? ⟨w.heap.size, 1, none⟩ = some (.int .i64 xv) := past1 _ qx_1
  replace qx_2 : (((w.alloc (.cells #[.bool xn, .int .i64 xv, .string xs] 23)).alloc (.cells #[.bool yn, .int .i64 yv, .string ys] 23)).alloc (.cells #[.int .i64 ka, .int .i64 sa] 25)).cell? ⟨w.heap.size, 2, none⟩ = some (.string xs) := past1 _ qx_2
  replace qy_0 : (((w.alloc (.cells #[.bool xn, .int .i64 xv, .string xs] 23)).alloc (.cells #[.bool yn, .int .i64 yv, .string ys] 23)).alloc (.cells #[.int .i64 ka, .int .i64 sa] 25)).cell? ⟨w.heap.size + 1, 0, none⟩ = some (.bool yn) := past1 _ qy_0
  replace qy_1 : (((w.alloc (.cells #[.bool xn, .int .i64 xv, .string xs] 23)).alloc (.cells #[.bool yn, .int .i64 yv, .string ys] 23)).alloc (.cells #[.int .i64 ka, .int .i64 sa] 25)).cell? ⟨w.heap.size + 1, 1, none⟩ = some (.int .i64 yv) := past1 _ qy_1
  replace qy_2 : (((w.alloc (.cells #[.bool xn, .int .i64 xv, .string xs] 23)).alloc (.cells #[.bool yn, .int .i64 yv, .string ys] 23)).alloc (.cells #[.int .i64 ka, .int .i64 sa] 25)).cell? ⟨w.heap.size + 1, 2, none⟩ = some (.string ys) := past1 _ qy_2
  have qa_0 : (((w.alloc (.cells #[.bool xn, .int .i64 xv, .string xs] 23)).alloc (.cells #[.bool yn, .int .i64 yv, .string ys] 23)).alloc (.cells #[.int .i64 ka, .int .i64 sa] 25)).cell? ⟨w.heap.size + 1 + 1, 0, none⟩ = some (.int .i64 ka) := World.cell?_alloc_at _ _ _ _ (by simp)
  have qa_1 : (((w.alloc (.cells #[.bool xn, .int .i64 xv, .string xs] 23)).alloc (.cells #[.bool yn, .int .i64 yv, .string ys] 23)).alloc (.cells #[.int .i64 ka, .int .i64 sa] 25)).cell? ⟨w.heap.size + 1 + 1, 1, none⟩ = some (.int .i64 sa) := World.cell?_alloc_at _ _ _ _ (by simp)
  replace C := Lib.hid (ba C.out (.cells #[.int .i64 ka, .int .i64 sa] 25))
  replace qx_0 : ((((w.alloc (.cells #[.bool xn, .int .i64 xv, .string xs] 23)).alloc (.cells #[.bool yn, .int .i64 yv, .string ys] 23)).alloc (.cells #[.int .i64 ka, .int .i64 sa] 25)).alloc (.cells #[.int .i64 kb, .int .i64 sb] 25)).cell? ⟨w.heap.size, 0, none⟩ = some (.bool xn) := past1 _ qx_0
  replace qx_1 : ((((w.alloc (.cells #[.bool xn, .int .i64 xv, .string xs] 23)).alloc (.cells #[.bool yn, .int .i64 yv, .string ys] 23)).alloc (.cells #[.int .i64 ka, .int .i64 sa] 25)).alloc (.cells #[.int .i64 kb, .int .i64 sb] 25)).cell? ⟨w.heap.size, 1, none⟩ = some (.int .i64 xv) := past1 _ qx_1
  replace qx_2 : ((((w.alloc (.cells #[.bool xn, .int .i64 xv, .string xs] 23)).alloc (.cells #[.bool yn, .int .i64 yv, .string ys] 23)).alloc (.cells #[.int .i64 ka, .int .i64 sa] 25)).alloc (.cells #[.int .i64 kb, .int .i64 sb] 25)).cell? ⟨w.heap.size, 2, none⟩ = some (.string xs) := past1 _ qx_2
  replace qy_0 : ((((w.alloc (.cells #[.bool xn, .int .i64 xv, .string xs] 23)).alloc (.cells #[.bool yn, .int .i64 yv, .string ys] 23)).alloc (.cells #[.int .i64 ka, .int .i64 sa] 25)).alloc (.cells #[.int .i64 kb, .int .i64 sb] 25)).cell? ⟨w.heap.size + 1, 0, none⟩ = some (.bool yn) := past1 _ qy_0
  replace qy_1 : ((((w.alloc (.cells #[.bool xn, .int .i64 xv, .string xs] 23)).alloc (.cells #[.bool yn, .int .i64 yv, .string ys] 23)).alloc (.cells #[.int .i64 ka, .int .i64 sa] 25)).alloc (.cells #[.int .i64 kb, .int .i64 sb] 25)).cell? ⟨w.heap.size + 1, 1, none⟩ = some (.int .i64 yv) := past1 _ qy_1
  replace qy_2 : ((((w.alloc (.cells #[.bool xn, .int .i64 xv, .string xs] 23)).alloc (.cells #[.bool yn, .int .i64 yv, .string ys] 23)).alloc (.cells #[.int .i64 ka, .int .i64 sa] 25)).alloc (.cells #[.int .i64 kb, .int .i64 sb] 25)).cell? ⟨w.heap.size + 1, 2, none⟩ = some (.string ys) := past1 _ qy_2
  replace qa_0 : ((((w.alloc (.cells #[.bool xn, .int .i64 xv, .string xs] 23)).alloc (.cells #[.bool yn, .int .i64 yv, .string ys] 23)).alloc (.cells #[.int .i64 ka, .int .i64 sa] 25)).alloc (.cells #[.int .i64 kb, .int .i64 sb] 25)).cell? ⟨w.heap.size + 1 + 1, 0, none⟩ = some (.int .i64 ka) := past1 _ qa_0
  replace qa_1 : ((((w.alloc (.cells #[.bool xn, .int .i64 xv, .string xs] 23)).alloc (.cells #[.bool yn, .int .i64 yv, .string ys] 23)).alloc (.cells #[.int .i64 ka, .int .i64 sa] 25)).alloc (.cells #[.int .i64 kb, .int .i64 sb] 25)).cell? ⟨w.heap.size + 1 + 1, 1, none⟩ = some (.int .i64 sa) := past1 _ qa_1
  have qb_0 : ((((w.alloc (.cells #[.bool xn, .int .i64 xv, .string xs] 23)).alloc (.cells #[.bool yn, .int .i64 yv, .string ys] 23)).alloc (.cells #[.int .i64 ka, .int .i64 sa] 25)).alloc (.cells #[.int .i64 kb, .int .i64 sb] 25)).cell? ⟨w.heap.size + 1 + 1 + 1, 0, none⟩ = some (.int .i64 kb) := World.cell?_alloc_at _ _ _ _ (by simp)
  have qb_1 : ((((w.alloc (.cells #[.bool xn, .int .i64 xv, .string xs] 23)).alloc (.cells #[.bool yn, .int .i64 yv, .string ys] 23)).alloc (.cells #[.int .i64 ka, .int .i64 sa] 25)).alloc (.cells #[.int .i64 kb, .int .i64 sb] 25)).cell? ⟨w.heap.size + 1 + 1 + 1, 1, none⟩ = some (.int .i64 sb) := World.cell?_alloc_at _ _ _ _ (by simp)
  replace C := Lib.hid (ba C.out (.cells #[.int .i64 kb, .int .i64 sb] 25))
  go_enter Tryz.func8, Tryz.ntmps8
  go_wp2_with fail
  refine (rfits_any ka sa false xn xv xs _ _ H1.out).mono ?_
  rintro e w1 ⟨rfl, c⟩
  replace qx_0 : w1.cell? ⟨w.heap.size, 0, none⟩ = some (.bool xn) := cell_later c qx_0
  replace qx_1 : w1.cell? ⟨w.heap.size, 1, none⟩ = some (.int .i64 xv) := cell_later c qx_1
  replace qx_2 : w1.cell? ⟨w.heap.size, 2, none⟩ = some (.string xs) := cell_later c qx_2
  replace qy_0 : w1.cell? ⟨w.heap.size + 1, 0, none⟩ = some (.bool yn) := cell_later c qy_0
  replace qy_1 : w1.cell? ⟨w.heap.size + 1, 1, none⟩ = some (.int .i64 yv) := cell_later c qy_1
  replace qy_2 : w1.cell? ⟨w.heap.size + 1, 2, none⟩ = some (.string ys) := cell_later c qy_2
  replace qa_0 : w1.cell? ⟨w.heap.size + 1 + 1, 0, none⟩ = some (.int .i64 ka) := cell_later c qa_0
  replace qa_1 : w1.cell? ⟨w.heap.size + 1 + 1, 1, none⟩ = some (.int .i64 sa) := cell_later c qa_1
  replace qb_0 : w1.cell? ⟨w.heap.size + 1 + 1 + 1, 0, none⟩ = some (.int .i64 kb) := cell_later c qb_0
  replace qb_1 : w1.cell? ⟨w.heap.size + 1 + 1 + 1, 1, none⟩ = some (.int .i64 sb) := cell_later c qb_1
  have lx : w.heap.size < w1.heap.size := World.block_lt_of_cell? _ _ qx_0
  have ly : w.heap.size + 1 < w1.heap.size := World.block_lt_of_cell? _ _ qy_0
  have la : w.heap.size + 1 + 1 < w1.heap.size := World.block_lt_of_cell? _ _ qa_0
  have lb : w.heap.size + 1 + 1 + 1 < w1.heap.size := World.block_lt_of_cell? _ _ qb_0
  replace C := Lib.hid (bj C.out c)
  clear c
  go_wp2_with fail
  refine (rfits_any kb sb false yn yv ys _ _ H2.out).mono ?_
  rintro e w2 ⟨rfl, c⟩
  replace qx_0 : w2.cell? ⟨w.heap.size, 0, none⟩ = some (.bool xn) := cell_later c qx_0
  replace qx_1 : w2.cell? ⟨w.heap.size, 1, none⟩ = some (.int .i64 xv) := cell_later c qx_1
  replace qx_2 : w2.cell? ⟨w.heap.size, 2, none⟩ = some (.string xs) := cell_later c qx_2
  replace qy_0 : w2.cell? ⟨w.heap.size + 1, 0, none⟩ = some (.bool yn) := cell_later c qy_0
  replace qy_1 : w2.cell? ⟨w.heap.size + 1, 1, none⟩ = some (.int .i64 yv) := cell_later c qy_1
  replace qy_2 : w2.cell? ⟨w.heap.size + 1, 2, none⟩ = some (.string ys) := cell_later c qy_2
  replace qa_0 : w2.cell? ⟨w.heap.size + 1 + 1, 0, none⟩ = some (.int .i64 ka) := cell_later c qa_0
  replace qa_1 : w2.cell? ⟨w.heap.size + 1 + 1, 1, none⟩ = some (.int .i64 sa) := cell_later c qa_1
  replace qb_0 : w2.cell? ⟨w.heap.size + 1 + 1 + 1, 0, none⟩ = some (.int .i64 kb) := cell_later c qb_0
  replace qb_1 : w2.cell? ⟨w.heap.size + 1 + 1 + 1, 1, none⟩ = some (.int .i64 sb) := cell_later c qb_1
  clear lx
  have lx : w.heap.size < w2.heap.size := World.block_lt_of_cell? _ _ qx_0
  clear ly
  have ly : w.heap.size + 1 < w2.heap.size := World.block_lt_of_cell? _ _ qy_0
  clear la
  have la : w.heap.size + 1 + 1 < w2.heap.size := World.block_lt_of_cell? _ _ qa_0
  clear lb
  have lb : w.heap.size + 1 + 1 + 1 < w2.heap.size := World.block_lt_of_cell? _ _ qb_0
  replace C := Lib.hid (bj C.out c)
  clear c
  go_wp2_with fail
  have HZ := Lib.hid (show HeldRC w xn xv xs yn yv ys ka sa kb sb w2.drew from ⟨qx_0, qx_1, qx_2, qy_0, qy_1, qy_2, qa_0, qa_1, qb_0, qb_1, C.out.drew⟩)
  refine wp_region_held_drew (S := fun W => HeldRC w xn xv xs yn yv ys ka sa kb sb W) (by kernel_rfl) HZ.out (fun hHeld => ?_)
  refine take_yes (i := 0) (d := (some 22)) (v := ?_) rfl (by kernel_rfl) (by kernel_rfl) (by kernel_rfl) rfl (fun _ _ _ h => h) (by rfl) (by assumption) ?_ ?_
  rotate_left
  · (intro w hSw; (try dsimp only at hSw); go_simp; try with_reducible rfl)
  try simp only [Act.put, List.setIfInBounds_toArray, List.set_cons_zero, List.set_cons_succ]
  refine take_yes (i := 1) (d := (some 23)) (v := ?_) rfl (by kernel_rfl) (by kernel_rfl) (by kernel_rfl) rfl (fun _ _ _ h => h) (by rfl) (by assumption) ?_ ?_
  rotate_left
  · (intro w hSw; (try dsimp only at hSw); go_simp; try with_reducible rfl)
  try simp only [Act.put, List.setIfInBounds_toArray, List.set_cons_zero, List.set_cons_succ]
  refine take_yes (i := 2) (d := (some 24)) (v := ?_) rfl (by kernel_rfl) (by kernel_rfl) (by kernel_rfl) rfl (fun _ _ _ h => h) (by rfl) (by assumption) ?_ ?_
  rotate_left
  · (intro w hSw; (try dsimp only at hSw); go_simp; try with_reducible rfl)
  try simp only [Act.put, List.setIfInBounds_toArray, List.set_cons_zero, List.set_cons_succ]
  refine take_no (i := 3) (d := (some 25)) rfl (by kernel_rfl) (by kernel_rfl) (by kernel_rfl) rfl (fun _ _ _ h => h) (by rfl) (by assumption) ?_
  try simp only [Act.put, List.setIfInBounds_toArray, List.set_cons_zero, List.set_cons_succ]
  refine take_no (i := 4) (d := (some 26)) rfl (by kernel_rfl) (by kernel_rfl) (by kernel_rfl) rfl (fun _ _ _ h => h) (by rfl) (by assumption) ?_
  try simp only [Act.put, List.setIfInBounds_toArray, List.set_cons_zero, List.set_cons_succ]
  refine take_yes (i := 5) (d := (some 27)) (v := ?_) rfl (by kernel_rfl) (by kernel_rfl) (by kernel_rfl) rfl (fun _ _ _ h => h) (by rfl) (by assumption) ?_ ?_
  rotate_left
  · (intro w hSw; (try dsimp only at hSw); go_simp; try with_reducible rfl)
  try simp only [Act.put, List.setIfInBounds_toArray, List.set_cons_zero, List.set_cons_succ]
  refine take_yes (i := 6) (d := (some 28)) (v := ?_) rfl (by kernel_rfl) (by kernel_rfl) (by kernel_rfl) rfl (fun _ _ _ h => h) (by rfl) (by assumption) ?_ ?_
  rotate_left
  · (intro w hSw; (try dsimp only at hSw); go_simp; try with_reducible rfl)
  try simp only [Act.put, List.setIfInBounds_toArray, List.set_cons_zero, List.set_cons_succ]
  refine take_no (i := 7) (d := (some 29)) rfl (by kernel_rfl) (by kernel_rfl) (by kernel_rfl) rfl (fun _ _ _ h => h) (by rfl) (by assumption) ?_
  try simp only [Act.put, List.setIfInBounds_toArray, List.set_cons_zero, List.set_cons_succ]
  refine take_no (i := 8) (d := (some 30)) rfl (by kernel_rfl) (by kernel_rfl) (by kernel_rfl) rfl (fun _ _ _ h => h) (by rfl) (by assumption) ?_
  try simp only [Act.put, List.setIfInBounds_toArray, List.set_cons_zero, List.set_cons_succ]
  refine take_no (i := 9) (d := (some 31)) rfl (by kernel_rfl) (by kernel_rfl) (by kernel_rfl) rfl (fun _ _ _ h => h) (by rfl) (by assumption) ?_
  try simp only [Act.put, List.setIfInBounds_toArray, List.set_cons_zero, List.set_cons_succ]
  refine take_no (i := 10) (d := (some 32)) rfl (by kernel_rfl) (by kernel_rfl) (by kernel_rfl) rfl (fun _ _ _ h => h) (by rfl) (by assumption) ?_
  try simp only [Act.put, List.setIfInBounds_toArray, List.set_cons_zero, List.set_cons_succ]
  refine take_no (i := 11) (d := (some 33)) rfl (by kernel_rfl) (by kernel_rfl) (by kernel_rfl) rfl (fun _ _ _ h => h) (by rfl) (by assumption) ?_
  try simp only [Act.put, List.setIfInBounds_toArray, List.set_cons_zero, List.set_cons_succ]
  refine take_yes (i := 12) (d := (some 34)) (v := ?_) rfl (by kernel_rfl) (by kernel_rfl) (by kernel_rfl) rfl (fun _ _ _ h => h) (by rfl) (by assumption) ?_ ?_
  rotate_left
  · (intro w hSw; (try dsimp only at hSw); go_simp; try with_reducible rfl)
  try simp only [Act.put, List.setIfInBounds_toArray, List.set_cons_zero, List.set_cons_succ]
  refine take_yes (i := 13) (d := (some 35)) (v := ?_) rfl (by kernel_rfl) (by kernel_rfl) (by kernel_rfl) rfl (fun _ _ _ h => h) (by rfl) (by assumption) ?_ ?_
  rotate_left
  · (intro w hSw; (try dsimp only at hSw); go_simp; try with_reducible rfl)
  try simp only [Act.put, List.setIfInBounds_toArray, List.set_cons_zero, List.set_cons_succ]
  refine take_no (i := 14) (d := (some 36)) rfl (by kernel_rfl) (by kernel_rfl) (by kernel_rfl) rfl (fun _ _ _ h => h) (by rfl) (by assumption) ?_
  try simp only [Act.put, List.setIfInBounds_toArray, List.set_cons_zero, List.set_cons_succ]
  refine take_no (i := 15) (d := (some 37)) rfl (by kernel_rfl) (by kernel_rfl) (by kernel_rfl) rfl (fun _ _ _ h => h) (by rfl) (by assumption) ?_
  try simp only [Act.put, List.setIfInBounds_toArray, List.set_cons_zero, List.set_cons_succ]
  refine take_no (i := 16) (d := (some 38)) rfl (by kernel_rfl) (by kernel_rfl) (by kernel_rfl) rfl (fun _ _ _ h => h) (by rfl) (by assumption) ?_
  try simp only [Act.put, List.setIfInBounds_toArray, List.set_cons_zero, List.set_cons_succ]
  refine take_no (i := 17) (d := (some 39)) rfl (by kernel_rfl) (by kernel_rfl) (by kernel_rfl) rfl (fun _ _ _ h => h) (by rfl) (by assumption) ?_
  try simp only [Act.put, List.setIfInBounds_toArray, List.set_cons_zero, List.set_cons_succ]
  refine take_no (i := 18) (d := (some 40)) rfl (by kernel_rfl) (by kernel_rfl) (by kernel_rfl) rfl (fun _ _ _ h => h) (by rfl) (by assumption) ?_
  try simp only [Act.put, List.setIfInBounds_toArray, List.set_cons_zero, List.set_cons_succ]
  refine take_no (i := 19) (d := (some 41)) rfl (by kernel_rfl) (by kernel_rfl) (by kernel_rfl) rfl (fun _ _ _ h => h) (by rfl) (by assumption) ?_
  try simp only [Act.put, List.setIfInBounds_toArray, List.set_cons_zero, List.set_cons_succ]
  refine take_no (i := 20) (d := (some 42)) rfl (by kernel_rfl) (by kernel_rfl) (by kernel_rfl) rfl (fun _ _ _ h => h) (by rfl) (by assumption) ?_
  try simp only [Act.put, List.setIfInBounds_toArray, List.set_cons_zero, List.set_cons_succ]
  refine take_no (i := 21) (d := (some 43)) rfl (by kernel_rfl) (by kernel_rfl) (by kernel_rfl) rfl (fun _ _ _ h => h) (by rfl) (by assumption) ?_
  try simp only [Act.put, List.setIfInBounds_toArray, List.set_cons_zero, List.set_cons_succ]
  refine take_no (i := 22) (d := (some 44)) rfl (by kernel_rfl) (by kernel_rfl) (by kernel_rfl) rfl (fun _ _ _ h => h) (by rfl) (by assumption) ?_
  try simp only [Act.put, List.setIfInBounds_toArray, List.set_cons_zero, List.set_cons_succ]
  refine take_no (i := 23) (d := (some 45)) rfl (by kernel_rfl) (by kernel_rfl) (by kernel_rfl) rfl (fun _ _ _ h => h) (by rfl) (by assumption) ?_
  try simp only [Act.put, List.setIfInBounds_toArray, List.set_cons_zero, List.set_cons_succ]
  refine take_yes (i := 24) (d := (some 46)) (v := ?_) rfl (by kernel_rfl) (by kernel_rfl) (by kernel_rfl) rfl (fun _ _ _ h => h) (by rfl) (by assumption) ?_ ?_
  rotate_left
  · (intro w hSw; (try dsimp only at hSw); go_simp; try with_reducible rfl)
  try simp only [Act.put, List.setIfInBounds_toArray, List.set_cons_zero, List.set_cons_succ]
  refine wpAnyH_done (by kernel_rfl) ?_ _
  all_goals
    go_wp2_with fail
    go_ret2
    exact ⟨by simp, (‹HeldRC w xn xv xs yn yv ys ka sa kb sb _›).2.2.2.2.2.2.2.2.2.2⟩
set_option maxRecDepth 100000 in
set_option maxHeartbeats 4000000 in
theorem rcmp_no_y (xn yn : Bool) (xv yv ka sa kb sb : Int) (xs ys : ByteArray) (h1 : fitsB ⟨ka, sa⟩ false ⟨xn, xv, xs⟩ = true) (h2 : fitsB ⟨kb, sb⟩ false ⟨yn, yv, ys⟩ = false) (w : World) : Calls Tryz.prog 8 #[.agg #[.bool xn, .int .i64 xv, .string xs], .agg #[.bool yn, .int .i64 yv, .string ys], .agg #[.int .i64 ka, .int .i64 sa], .agg #[.int .i64 kb, .int .i64 sb]] w fun e w' => e = .returned (.tuple #[.int .i64 0, .bool false]) ∧ Below w.heap.size w w' := by
  have H1 := Lib.hid h1
  have H2 := Lib.hid h2
  clear h1 h2
  have C := Lib.hid (below0 w)
  have qx_0 : (w.alloc (.cells #[.bool xn, .int .i64 xv, .string xs] 23)).cell? ⟨w.heap.size, 0, none⟩ = some (.bool xn) := World.cell?_alloc_at _ _ _ _ (rfl)
  have qx_1 : (w.alloc (.cells #[.bool xn, .int .i64 xv, .string xs] 23)).cell? ⟨w.heap.size, 1, none⟩ = some (.int .i64 xv) := World.cell?_alloc_at _ _ _ _ (rfl)
  have qx_2 : (w.alloc (.cells #[.bool xn, .int .i64 xv, .string xs] 23)).cell? ⟨w.heap.size, 2, none⟩ = some (.string xs) := World.cell?_alloc_at _ _ _ _ (rfl)
  replace C := Lib.hid (ba C.out (.cells #[.bool xn, .int .i64 xv, .string xs] 23))
  replace qx_0 : ((w.alloc (.cells #[.bool xn, .int .i64 xv, .string xs] 23)).alloc (.cells #[.bool yn, .int .i64 yv, .string ys] 23)).cell? ⟨w.heap.size, 0, none⟩ = some (.bool xn) := past1 _ qx_0
  replace qx_1 : ((w.alloc (.cells #[.bool xn, .int .i64 xv, .string xs] 23)).alloc (.cells #[.bool yn, .int .i64 yv, .string ys] 23)).cell? ⟨w.heap.size, 1, none⟩ = some (.int .i64 xv) := past1 _ qx_1
  replace qx_2 : ((w.alloc (.cells #[.bool xn, .int .i64 xv, .string xs] 23)).alloc (.cells #[.bool yn, .int .i64 yv, .string ys] 23)).cell? ⟨w.heap.size, 2, none⟩ = some (.string xs) := past1 _ qx_2
  have qy_0 : ((w.alloc (.cells #[.bool xn, .int .i64 xv, .string xs] 23)).alloc (.cells #[.bool yn, .int .i64 yv, .string ys] 23)).cell? ⟨w.heap.size + 1, 0, none⟩ = some (.bool yn) := World.cell?_alloc_at _ _ _ _ (by simp)
  have qy_1 : ((w.alloc (.cells #[.bool xn, .int .i64 xv, .string xs] 23)).alloc (.cells #[.bool yn, .int .i64 yv, .string ys] 23)).cell? ⟨w.heap.size + 1, 1, none⟩ = some (.int .i64 yv) := World.cell?_alloc_at _ _ _ _ (by simp)
  have qy_2 : ((w.alloc (.cells #[.bool xn, .int .i64 xv, .string xs] 23)).alloc (.cells #[.bool yn, .int .i64 yv, .string ys] 23)).cell? ⟨w.heap.size + 1, 2, none⟩ = some (.string ys) := World.cell?_alloc_at _ _ _ _ (by simp)
  replace C := Lib.hid (ba C.out (.cells #[.bool yn, .int .i64 yv, .string ys] 23))
  replace qx_0 : (((w.alloc (.cells #[.bool xn, .int .i64 xv, .string xs] 23)).alloc (.cells #[.bool yn, .int .i64 yv, .string ys] 23)).alloc (.cells #[.int .i64 ka, .int .i64 sa] 25)).cell? ⟨w.heap.size, 0, none⟩ = some (.bool xn) := past1 _ qx_0
  replace qx_1 : (((w.alloc (.cells #[.bool xn, .int .i64 xv, .string xs] 23)).alloc (.cells #[.bool yn, .int .i64 yv, .string ys] 23)).alloc (.cells #[.int .i64 ka, .int .i64 sa] 25)).cell? ⟨w.heap.size, 1, none⟩ = some (.int .i64 xv) := past1 _ qx_1
  replace qx_2 : (((w.alloc (.cells #[.bool xn, .int .i64 xv, .string xs] 23)).alloc (.cells #[.bool yn, .int .i64 yv, .string ys] 23)).alloc (.cells #[.int .i64 ka, .int .i64 sa] 25)).cell? ⟨w.heap.size, 2, none⟩ = some (.string xs) := past1 _ qx_2
  replace qy_0 : (((w.alloc (.cells #[.bool xn, .int .i64 xv, .string xs] 23)).alloc (.cells #[.bool yn, .int .i64 yv, .string ys] 23)).alloc (.cells #[.int .i64 ka, .int .i64 sa] 25)).cell? ⟨w.heap.size + 1, 0, none⟩ = some (.bool yn) := past1 _ qy_0
  replace qy_1 : (((w.alloc (.cells #[.bool xn, .int .i64 xv, .string xs] 23)).alloc (.cells #[.bool yn, .int .i64 yv, .string ys] 23)).alloc (.cells #[.int .i64 ka, .int .i64 sa] 25)).cell? ⟨w.heap.size + 1, 1, none⟩ = some (.int .i64 yv) := past1 _ qy_1
  replace qy_2 : (((w.alloc (.cells #[.bool xn, .int .i64 xv, .string xs] 23)).alloc (.cells #[.bool yn, .int .i64 yv, .string ys] 23)).alloc (.cells #[.int .i64 ka, .int .i64 sa] 25)).cell? ⟨w.heap.size + 1, 2, none⟩ = some (.string ys) := past1 _ qy_2
  have qa_0 : (((w.alloc (.cells #[.bool xn, .int .i64 xv, .string xs] 23)).alloc (.cells #[.bool yn, .int .i64 yv, .string ys] 23)).alloc (.cells #[.int .i64 ka, .int .i64 sa] 25)).cell? ⟨w.heap.size + 1 + 1, 0, none⟩ = some (.int .i64 ka) := World.cell?_alloc_at _ _ _ _ (by simp)
  have qa_1 : (((w.alloc (.cells #[.bool xn, .int .i64 xv, .string xs] 23)).alloc (.cells #[.bool yn, .int .i64 yv, .string ys] 23)).alloc (.cells #[.int .i64 ka, .int .i64 sa] 25)).cell? ⟨w.heap.size + 1 + 1, 1, none⟩ = some (.int .i64 sa) := World.cell?_alloc_at _ _ _ _ (by simp)
  replace C := Lib.hid (ba C.out (.cells #[.int .i64 ka, .int .i64 sa] 25))
  replace qx_0 : ((((w.alloc (.cells #[.bool xn, .int .i64 xv, .string xs] 23)).alloc (.cells #[.bool yn, .int .i64 yv, .string ys] 23)).alloc (.cells #[.int .i64 ka, .int .i64 sa] 25)).alloc (.cells #[.int .i64 kb, .int .i64 sb] 25)).cell? ⟨w.heap.size, 0, none⟩ = some (.bool xn) := past1 _ qx_0
  replace qx_1 : ((((w.alloc (.cells #[.bool xn, .int .i64 xv, .string xs] 23)).alloc (.cells #[.bool yn, .int .i64 yv, .string ys] 23)).alloc (.cells #[.int .i64 ka, .int .i64 sa] 25)).alloc (.cells #[.int .i64 kb, .int .i64 sb] 25)).cell? ⟨w.heap.size, 1, none⟩ = some (.int .i64 xv) := past1 _ qx_1
  replace qx_2 : ((((w.alloc (.cells #[.bool xn, .int .i64 xv, .string xs] 23)).alloc (.cells #[.bool yn, .int .i64 yv, .string ys] 23)).alloc (.cells #[.int .i64 ka, .int .i64 sa] 25)).alloc (.cells #[.int .i64 kb, .int .i64 sb] 25)).cell? ⟨w.heap.size, 2, none⟩ = some (.string xs) := past1 _ qx_2
  replace qy_0 : ((((w.alloc (.cells #[.bool xn, .int .i64 xv, .string xs] 23)).alloc (.cells #[.bool yn, .int .i64 yv, .string ys] 23)).alloc (.cells #[.int .i64 ka, .int .i64 sa] 25)).alloc (.cells #[.int .i64 kb, .int .i64 sb] 25)).cell? ⟨w.heap.size + 1, 0, none⟩ = some (.bool yn) := past1 _ qy_0
  replace qy_1 : ((((w.alloc (.cells #[.bool xn, .int .i64 xv, .string xs] 23)).alloc (.cells #[.bool yn, .int .i64 yv, .string ys] 23)).alloc (.cells #[.int .i64 ka, .int .i64 sa] 25)).alloc (.cells #[.int .i64 kb, .int .i64 sb] 25)).cell? ⟨w.heap.size + 1, 1, none⟩ = some (.int .i64 yv) := past1 _ qy_1
  replace qy_2 : ((((w.alloc (.cells #[.bool xn, .int .i64 xv, .string xs] 23)).alloc (.cells #[.bool yn, .int .i64 yv, .string ys] 23)).alloc (.cells #[.int .i64 ka, .int .i64 sa] 25)).alloc (.cells #[.int .i64 kb, .int .i64 sb] 25)).cell? ⟨w.heap.size + 1, 2, none⟩ = some (.string ys) := past1 _ qy_2
  replace qa_0 : ((((w.alloc (.cells #[.bool xn, .int .i64 xv, .string xs] 23)).alloc (.cells #[.bool yn, .int .i64 yv, .string ys] 23)).alloc (.cells #[.int .i64 ka, .int .i64 sa] 25)).alloc (.cells #[.int .i64 kb, .int .i64 sb] 25)).cell? ⟨w.heap.size + 1 + 1, 0, none⟩ = some (.int .i64 ka) := past1 _ qa_0
  replace qa_1 : ((((w.alloc (.cells #[.bool xn, .int .i64 xv, .string xs] 23)).alloc (.cells #[.bool yn, .int .i64 yv, .string ys] 23)).alloc (.cells #[.int .i64 ka, .int .i64 sa] 25)).alloc (.cells #[.int .i64 kb, .int .i64 sb] 25)).cell? ⟨w.heap.size + 1 + 1, 1, none⟩ = some (.int .i64 sa) := past1 _ qa_1
  have qb_0 : ((((w.alloc (.cells #[.bool xn, .int .i64 xv, .string xs] 23)).alloc (.cells #[.bool yn, .int .i64 yv, .string ys] 23)).alloc (.cells #[.int .i64 ka, .int .i64 sa] 25)).alloc (.cells #[.int .i64 kb, .int .i64 sb] 25)).cell? ⟨w.heap.size + 1 + 1 + 1, 0, none⟩ = some (.int .i64 kb) := World.cell?_alloc_at _ _ _ _ (by simp)
  have qb_1 : ((((w.alloc (.cells #[.bool xn, .int .i64 xv, .string xs] 23)).alloc (.cells #[.bool yn, .int .i64 yv, .string ys] 23)).alloc (.cells #[.int .i64 ka, .int .i64 sa] 25)).alloc (.cells #[.int .i64 kb, .int .i64 sb] 25)).cell? ⟨w.heap.size + 1 + 1 + 1, 1, none⟩ = some (.int .i64 sb) := World.cell?_alloc_at _ _ _ _ (by simp)
  replace C := Lib.hid (ba C.out (.cells #[.int .i64 kb, .int .i64 sb] 25))
  go_enter Tryz.func8, Tryz.ntmps8
  go_wp2_with fail
  refine (rfits_any ka sa false xn xv xs _ _ H1.out).mono ?_
  rintro e w1 ⟨rfl, c⟩
  replace qx_0 : w1.cell? ⟨w.heap.size, 0, none⟩ = some (.bool xn) := cell_later c qx_0
  replace qx_1 : w1.cell? ⟨w.heap.size, 1, none⟩ = some (.int .i64 xv) := cell_later c qx_1
  replace qx_2 : w1.cell? ⟨w.heap.size, 2, none⟩ = some (.string xs) := cell_later c qx_2
  replace qy_0 : w1.cell? ⟨w.heap.size + 1, 0, none⟩ = some (.bool yn) := cell_later c qy_0
  replace qy_1 : w1.cell? ⟨w.heap.size + 1, 1, none⟩ = some (.int .i64 yv) := cell_later c qy_1
  replace qy_2 : w1.cell? ⟨w.heap.size + 1, 2, none⟩ = some (.string ys) := cell_later c qy_2
  replace qa_0 : w1.cell? ⟨w.heap.size + 1 + 1, 0, none⟩ = some (.int .i64 ka) := cell_later c qa_0
  replace qa_1 : w1.cell? ⟨w.heap.size + 1 + 1, 1, none⟩ = some (.int .i64 sa) := cell_later c qa_1
  replace qb_0 : w1.cell? ⟨w.heap.size + 1 + 1 + 1, 0, none⟩ = some (.int .i64 kb) := cell_later c qb_0
  replace qb_1 : w1.cell? ⟨w.heap.size + 1 + 1 + 1, 1, none⟩ = some (.int .i64 sb) := cell_later c qb_1
  have lx : w.heap.size < w1.heap.size := World.block_lt_of_cell? _ _ qx_0
  have ly : w.heap.size + 1 < w1.heap.size := World.block_lt_of_cell? _ _ qy_0
  have la : w.heap.size + 1 + 1 < w1.heap.size := World.block_lt_of_cell? _ _ qa_0
  have lb : w.heap.size + 1 + 1 + 1 < w1.heap.size := World.block_lt_of_cell? _ _ qb_0
  replace C := Lib.hid (bj C.out c)
  clear c
  go_wp2_with fail
  refine (rfits_any kb sb false yn yv ys _ _ H2.out).mono ?_
  rintro e w2 ⟨rfl, c⟩
  replace qx_0 : w2.cell? ⟨w.heap.size, 0, none⟩ = some (.bool xn) := cell_later c qx_0
  replace qx_1 : w2.cell? ⟨w.heap.size, 1, none⟩ = some (.int .i64 xv) := cell_later c qx_1
  replace qx_2 : w2.cell? ⟨w.heap.size, 2, none⟩ = some (.string xs) := cell_later c qx_2
  replace qy_0 : w2.cell? ⟨w.heap.size + 1, 0, none⟩ = some (.bool yn) := cell_later c qy_0
  replace qy_1 : w2.cell? ⟨w.heap.size + 1, 1, none⟩ = some (.int .i64 yv) := cell_later c qy_1
  replace qy_2 : w2.cell? ⟨w.heap.size + 1, 2, none⟩ = some (.string ys) := cell_later c qy_2
  replace qa_0 : w2.cell? ⟨w.heap.size + 1 + 1, 0, none⟩ = some (.int .i64 ka) := cell_later c qa_0
  replace qa_1 : w2.cell? ⟨w.heap.size + 1 + 1, 1, none⟩ = some (.int .i64 sa) := cell_later c qa_1
  replace qb_0 : w2.cell? ⟨w.heap.size + 1 + 1 + 1, 0, none⟩ = some (.int .i64 kb) := cell_later c qb_0
  replace qb_1 : w2.cell? ⟨w.heap.size + 1 + 1 + 1, 1, none⟩ = some (.int .i64 sb) := cell_later c qb_1
  clear lx
  have lx : w.heap.size < w2.heap.size := World.block_lt_of_cell? _ _ qx_0
  clear ly
  have ly : w.heap.size + 1 < w2.heap.size := World.block_lt_of_cell? _ _ qy_0
  clear la
  have la : w.heap.size + 1 + 1 < w2.heap.size := World.block_lt_of_cell? _ _ qa_0
  clear lb
  have lb : w.heap.size + 1 + 1 + 1 < w2.heap.size := World.block_lt_of_cell? _ _ qb_0
  replace C := Lib.hid (bj C.out c)
  clear c
  go_wp2_with fail
  have HZ := Lib.hid (show HeldRC w xn xv xs yn yv ys ka sa kb sb w2.drew from ⟨qx_0, qx_1, qx_2, qy_0, qy_1, qy_2, qa_0, qa_1, qb_0, qb_1, C.out.drew⟩)
  refine wp_region_held_drew (S := fun W => HeldRC w xn xv xs yn yv ys ka sa kb sb W) (by kernel_rfl) HZ.out (fun hHeld => ?_)
  refine take_yes (i := 0) (d := (some 22)) (v := ?_) rfl (by kernel_rfl) (by kernel_rfl) (by kernel_rfl) rfl (fun _ _ _ h => h) (by rfl) (by assumption) ?_ ?_
  rotate_left
  · (intro w hSw; (try dsimp only at hSw); go_simp; try with_reducible rfl)
  try simp only [Act.put, List.setIfInBounds_toArray, List.set_cons_zero, List.set_cons_succ]
  refine take_yes (i := 1) (d := (some 23)) (v := ?_) rfl (by kernel_rfl) (by kernel_rfl) (by kernel_rfl) rfl (fun _ _ _ h => h) (by rfl) (by assumption) ?_ ?_
  rotate_left
  · (intro w hSw; (try dsimp only at hSw); go_simp; try with_reducible rfl)
  try simp only [Act.put, List.setIfInBounds_toArray, List.set_cons_zero, List.set_cons_succ]
  refine take_yes (i := 2) (d := (some 24)) (v := ?_) rfl (by kernel_rfl) (by kernel_rfl) (by kernel_rfl) rfl (fun _ _ _ h => h) (by rfl) (by assumption) ?_ ?_
  rotate_left
  · (intro w hSw; (try dsimp only at hSw); go_simp; try with_reducible rfl)
  try simp only [Act.put, List.setIfInBounds_toArray, List.set_cons_zero, List.set_cons_succ]
  refine take_yes (i := 3) (d := (some 25)) (v := ?_) rfl (by kernel_rfl) (by kernel_rfl) (by kernel_rfl) rfl (fun _ _ _ h => h) (by rfl) (by assumption) ?_ ?_
  rotate_left
  · (intro w hSw; (try dsimp only at hSw); go_simp; try with_reducible rfl)
  try simp only [Act.put, List.setIfInBounds_toArray, List.set_cons_zero, List.set_cons_succ]
  refine take_yes (i := 4) (d := (some 26)) (v := ?_) rfl (by kernel_rfl) (by kernel_rfl) (by kernel_rfl) rfl (fun _ _ _ h => h) (by rfl) (by assumption) ?_ ?_
  rotate_left
  · (intro w hSw; (try dsimp only at hSw); go_simp; try with_reducible rfl)
  try simp only [Act.put, List.setIfInBounds_toArray, List.set_cons_zero, List.set_cons_succ]
  refine take_yes (i := 5) (d := (some 27)) (v := ?_) rfl (by kernel_rfl) (by kernel_rfl) (by kernel_rfl) rfl (fun _ _ _ h => h) (by rfl) (by assumption) ?_ ?_
  rotate_left
  · (intro w hSw; (try dsimp only at hSw); go_simp; try with_reducible rfl)
  try simp only [Act.put, List.setIfInBounds_toArray, List.set_cons_zero, List.set_cons_succ]
  refine take_yes (i := 6) (d := (some 28)) (v := ?_) rfl (by kernel_rfl) (by kernel_rfl) (by kernel_rfl) rfl (fun _ _ _ h => h) (by rfl) (by assumption) ?_ ?_
  rotate_left
  · (intro w hSw; (try dsimp only at hSw); go_simp; try with_reducible rfl)
  try simp only [Act.put, List.setIfInBounds_toArray, List.set_cons_zero, List.set_cons_succ]
  refine take_no (i := 7) (d := (some 29)) rfl (by kernel_rfl) (by kernel_rfl) (by kernel_rfl) rfl (fun _ _ _ h => h) (by rfl) (by assumption) ?_
  try simp only [Act.put, List.setIfInBounds_toArray, List.set_cons_zero, List.set_cons_succ]
  refine take_no (i := 8) (d := (some 30)) rfl (by kernel_rfl) (by kernel_rfl) (by kernel_rfl) rfl (fun _ _ _ h => h) (by rfl) (by assumption) ?_
  try simp only [Act.put, List.setIfInBounds_toArray, List.set_cons_zero, List.set_cons_succ]
  refine take_no (i := 9) (d := (some 31)) rfl (by kernel_rfl) (by kernel_rfl) (by kernel_rfl) rfl (fun _ _ _ h => h) (by rfl) (by assumption) ?_
  try simp only [Act.put, List.setIfInBounds_toArray, List.set_cons_zero, List.set_cons_succ]
  refine take_no (i := 10) (d := (some 32)) rfl (by kernel_rfl) (by kernel_rfl) (by kernel_rfl) rfl (fun _ _ _ h => h) (by rfl) (by assumption) ?_
  try simp only [Act.put, List.setIfInBounds_toArray, List.set_cons_zero, List.set_cons_succ]
  refine take_no (i := 11) (d := (some 33)) rfl (by kernel_rfl) (by kernel_rfl) (by kernel_rfl) rfl (fun _ _ _ h => h) (by rfl) (by assumption) ?_
  try simp only [Act.put, List.setIfInBounds_toArray, List.set_cons_zero, List.set_cons_succ]
  refine take_yes (i := 12) (d := (some 34)) (v := ?_) rfl (by kernel_rfl) (by kernel_rfl) (by kernel_rfl) rfl (fun _ _ _ h => h) (by rfl) (by assumption) ?_ ?_
  rotate_left
  · (intro w hSw; (try dsimp only at hSw); go_simp; try with_reducible rfl)
  try simp only [Act.put, List.setIfInBounds_toArray, List.set_cons_zero, List.set_cons_succ]
  refine take_yes (i := 13) (d := (some 35)) (v := ?_) rfl (by kernel_rfl) (by kernel_rfl) (by kernel_rfl) rfl (fun _ _ _ h => h) (by rfl) (by assumption) ?_ ?_
  rotate_left
  · (intro w hSw; (try dsimp only at hSw); go_simp; try with_reducible rfl)
  try simp only [Act.put, List.setIfInBounds_toArray, List.set_cons_zero, List.set_cons_succ]
  refine take_no (i := 14) (d := (some 36)) rfl (by kernel_rfl) (by kernel_rfl) (by kernel_rfl) rfl (fun _ _ _ h => h) (by rfl) (by assumption) ?_
  try simp only [Act.put, List.setIfInBounds_toArray, List.set_cons_zero, List.set_cons_succ]
  refine take_no (i := 15) (d := (some 37)) rfl (by kernel_rfl) (by kernel_rfl) (by kernel_rfl) rfl (fun _ _ _ h => h) (by rfl) (by assumption) ?_
  try simp only [Act.put, List.setIfInBounds_toArray, List.set_cons_zero, List.set_cons_succ]
  refine take_no (i := 16) (d := (some 38)) rfl (by kernel_rfl) (by kernel_rfl) (by kernel_rfl) rfl (fun _ _ _ h => h) (by rfl) (by assumption) ?_
  try simp only [Act.put, List.setIfInBounds_toArray, List.set_cons_zero, List.set_cons_succ]
  refine take_no (i := 17) (d := (some 39)) rfl (by kernel_rfl) (by kernel_rfl) (by kernel_rfl) rfl (fun _ _ _ h => h) (by rfl) (by assumption) ?_
  try simp only [Act.put, List.setIfInBounds_toArray, List.set_cons_zero, List.set_cons_succ]
  refine take_no (i := 18) (d := (some 40)) rfl (by kernel_rfl) (by kernel_rfl) (by kernel_rfl) rfl (fun _ _ _ h => h) (by rfl) (by assumption) ?_
  try simp only [Act.put, List.setIfInBounds_toArray, List.set_cons_zero, List.set_cons_succ]
  refine take_no (i := 19) (d := (some 41)) rfl (by kernel_rfl) (by kernel_rfl) (by kernel_rfl) rfl (fun _ _ _ h => h) (by rfl) (by assumption) ?_
  try simp only [Act.put, List.setIfInBounds_toArray, List.set_cons_zero, List.set_cons_succ]
  refine take_no (i := 20) (d := (some 42)) rfl (by kernel_rfl) (by kernel_rfl) (by kernel_rfl) rfl (fun _ _ _ h => h) (by rfl) (by assumption) ?_
  try simp only [Act.put, List.setIfInBounds_toArray, List.set_cons_zero, List.set_cons_succ]
  refine take_no (i := 21) (d := (some 43)) rfl (by kernel_rfl) (by kernel_rfl) (by kernel_rfl) rfl (fun _ _ _ h => h) (by rfl) (by assumption) ?_
  try simp only [Act.put, List.setIfInBounds_toArray, List.set_cons_zero, List.set_cons_succ]
  refine take_no (i := 22) (d := (some 44)) rfl (by kernel_rfl) (by kernel_rfl) (by kernel_rfl) rfl (fun _ _ _ h => h) (by rfl) (by assumption) ?_
  try simp only [Act.put, List.setIfInBounds_toArray, List.set_cons_zero, List.set_cons_succ]
  refine take_no (i := 23) (d := (some 45)) rfl (by kernel_rfl) (by kernel_rfl) (by kernel_rfl) rfl (fun _ _ _ h => h) (by rfl) (by assumption) ?_
  try simp only [Act.put, List.setIfInBounds_toArray, List.set_cons_zero, List.set_cons_succ]
  refine take_yes (i := 24) (d := (some 46)) (v := ?_) rfl (by kernel_rfl) (by kernel_rfl) (by kernel_rfl) rfl (fun _ _ _ h => h) (by rfl) (by assumption) ?_ ?_
  rotate_left
  · (intro w hSw; (try dsimp only at hSw); go_simp; try with_reducible rfl)
  try simp only [Act.put, List.setIfInBounds_toArray, List.set_cons_zero, List.set_cons_succ]
  refine wpAnyH_done (by kernel_rfl) ?_ _
  all_goals
    go_wp2_with fail
    go_ret2
    exact ⟨by simp, (‹HeldRC w xn xv xs yn yv ys ka sa kb sb _›).2.2.2.2.2.2.2.2.2.2⟩
set_option maxRecDepth 100000 in
set_option maxHeartbeats 4000000 in
theorem rcmp_no_n1 (xn yn : Bool) (xv yv ka sa kb sb : Int) (xs ys : ByteArray) (h1 : fitsB ⟨ka, sa⟩ false ⟨xn, xv, xs⟩ = true) (h2 : fitsB ⟨kb, sb⟩ false ⟨yn, yv, ys⟩ = true) (k1 : RNum ka true) (k2 : RNum kb false) (w : World) : Calls Tryz.prog 8 #[.agg #[.bool xn, .int .i64 xv, .string xs], .agg #[.bool yn, .int .i64 yv, .string ys], .agg #[.int .i64 ka, .int .i64 sa], .agg #[.int .i64 kb, .int .i64 sb]] w fun e w' => e = .returned (.tuple #[.int .i64 0, .bool false]) ∧ Below w.heap.size w w' := by
  have H1 := Lib.hid h1
  have H2 := Lib.hid h2
  have K1 := Lib.hid k1
  have K2 := Lib.hid k2
  clear h1 h2 k1 k2
  have C := Lib.hid (below0 w)
  have qx_0 : (w.alloc (.cells #[.bool xn, .int .i64 xv, .string xs] 23)).cell? ⟨w.heap.size, 0, none⟩ = some (.bool xn) := World.cell?_alloc_at _ _ _ _ (rfl)
  have qx_1 : (w.alloc (.cells #[.bool xn, .int .i64 xv, .string xs] 23)).cell? ⟨w.heap.size, 1, none⟩ = some (.int .i64 xv) := World.cell?_alloc_at _ _ _ _ (rfl)
  have qx_2 : (w.alloc (.cells #[.bool xn, .int .i64 xv, .string xs] 23)).cell? ⟨w.heap.size, 2, none⟩ = some (.string xs) := World.cell?_alloc_at _ _ _ _ (rfl)
  replace C := Lib.hid (ba C.out (.cells #[.bool xn, .int .i64 xv, .string xs] 23))
  replace qx_0 : ((w.alloc (.cells #[.bool xn, .int .i64 xv, .string xs] 23)).alloc (.cells #[.bool yn, .int .i64 yv, .string ys] 23)).cell? ⟨w.heap.size, 0, none⟩ = some (.bool xn) := past1 _ qx_0
  replace qx_1 : ((w.alloc (.cells #[.bool xn, .int .i64 xv, .string xs] 23)).alloc (.cells #[.bool yn, .int .i64 yv, .string ys] 23)).cell? ⟨w.heap.size, 1, none⟩ = some (.int .i64 xv) := past1 _ qx_1
  replace qx_2 : ((w.alloc (.cells #[.bool xn, .int .i64 xv, .string xs] 23)).alloc (.cells #[.bool yn, .int .i64 yv, .string ys] 23)).cell? ⟨w.heap.size, 2, none⟩ = some (.string xs) := past1 _ qx_2
  have qy_0 : ((w.alloc (.cells #[.bool xn, .int .i64 xv, .string xs] 23)).alloc (.cells #[.bool yn, .int .i64 yv, .string ys] 23)).cell? ⟨w.heap.size + 1, 0, none⟩ = some (.bool yn) := World.cell?_alloc_at _ _ _ _ (by simp)
  have qy_1 : ((w.alloc (.cells #[.bool xn, .int .i64 xv, .string xs] 23)).alloc (.cells #[.bool yn, .int .i64 yv, .string ys] 23)).cell? ⟨w.heap.size + 1, 1, none⟩ = some (.int .i64 yv) := World.cell?_alloc_at _ _ _ _ (by simp)
  have qy_2 : ((w.alloc (.cells #[.bool xn, .int .i64 xv, .string xs] 23)).alloc (.cells #[.bool yn, .int .i64 yv, .string ys] 23)).cell? ⟨w.heap.size + 1, 2, none⟩ = some (.string ys) := World.cell?_alloc_at _ _ _ _ (by simp)
  replace C := Lib.hid (ba C.out (.cells #[.bool yn, .int .i64 yv, .string ys] 23))
  replace qx_0 : (((w.alloc (.cells #[.bool xn, .int .i64 xv, .string xs] 23)).alloc (.cells #[.bool yn, .int .i64 yv, .string ys] 23)).alloc (.cells #[.int .i64 ka, .int .i64 sa] 25)).cell? ⟨w.heap.size, 0, none⟩ = some (.bool xn) := past1 _ qx_0
  replace qx_1 : (((w.alloc (.cells #[.bool xn, .int .i64 xv, .string xs] 23)).alloc (.cells #[.bool yn, .int .i64 yv, .string ys] 23)).alloc (.cells #[.int .i64 ka, .int .i64 sa] 25)).cell? ⟨w.heap.size, 1, none⟩ = some (.int .i64 xv) := past1 _ qx_1
  replace qx_2 : (((w.alloc (.cells #[.bool xn, .int .i64 xv, .string xs] 23)).alloc (.cells #[.bool yn, .int .i64 yv, .string ys] 23)).alloc (.cells #[.int .i64 ka, .int .i64 sa] 25)).cell? ⟨w.heap.size, 2, none⟩ = some (.string xs) := past1 _ qx_2
  replace qy_0 : (((w.alloc (.cells #[.bool xn, .int .i64 xv, .string xs] 23)).alloc (.cells #[.bool yn, .int .i64 yv, .string ys] 23)).alloc (.cells #[.int .i64 ka, .int .i64 sa] 25)).cell? ⟨w.heap.size + 1, 0, none⟩ = some (.bool yn) := past1 _ qy_0
  replace qy_1 : (((w.alloc (.cells #[.bool xn, .int .i64 xv, .string xs] 23)).alloc (.cells #[.bool yn, .int .i64 yv, .string ys] 23)).alloc (.cells #[.int .i64 ka, .int .i64 sa] 25)).cell? ⟨w.heap.size + 1, 1, none⟩ = some (.int .i64 yv) := past1 _ qy_1
  replace qy_2 : (((w.alloc (.cells #[.bool xn, .int .i64 xv, .string xs] 23)).alloc (.cells #[.bool yn, .int .i64 yv, .string ys] 23)).alloc (.cells #[.int .i64 ka, .int .i64 sa] 25)).cell? ⟨w.heap.size + 1, 2, none⟩ = some (.string ys) := past1 _ qy_2
  have qa_0 : (((w.alloc (.cells #[.bool xn, .int .i64 xv, .string xs] 23)).alloc (.cells #[.bool yn, .int .i64 yv, .string ys] 23)).alloc (.cells #[.int .i64 ka, .int .i64 sa] 25)).cell? ⟨w.heap.size + 1 + 1, 0, none⟩ = some (.int .i64 ka) := World.cell?_alloc_at _ _ _ _ (by simp)
  have qa_1 : (((w.alloc (.cells #[.bool xn, .int .i64 xv, .string xs] 23)).alloc (.cells #[.bool yn, .int .i64 yv, .string ys] 23)).alloc (.cells #[.int .i64 ka, .int .i64 sa] 25)).cell? ⟨w.heap.size + 1 + 1, 1, none⟩ = some (.int .i64 sa) := World.cell?_alloc_at _ _ _ _ (by simp)
  replace C := Lib.hid (ba C.out (.cells #[.int .i64 ka, .int .i64 sa] 25))
  replace qx_0 : ((((w.alloc (.cells #[.bool xn, .int .i64 xv, .string xs] 23)).alloc (.cells #[.bool yn, .int .i64 yv, .string ys] 23)).alloc (.cells #[.int .i64 ka, .int .i64 sa] 25)).alloc (.cells #[.int .i64 kb, .int .i64 sb] 25)).cell? ⟨w.heap.size, 0, none⟩ = some (.bool xn) := past1 _ qx_0
  replace qx_1 : ((((w.alloc (.cells #[.bool xn, .int .i64 xv, .string xs] 23)).alloc (.cells #[.bool yn, .int .i64 yv, .string ys] 23)).alloc (.cells #[.int .i64 ka, .int .i64 sa] 25)).alloc (.cells #[.int .i64 kb, .int .i64 sb] 25)).cell? ⟨w.heap.size, 1, none⟩ = some (.int .i64 xv) := past1 _ qx_1
  replace qx_2 : ((((w.alloc (.cells #[.bool xn, .int .i64 xv, .string xs] 23)).alloc (.cells #[.bool yn, .int .i64 yv, .string ys] 23)).alloc (.cells #[.int .i64 ka, .int .i64 sa] 25)).alloc (.cells #[.int .i64 kb, .int .i64 sb] 25)).cell? ⟨w.heap.size, 2, none⟩ = some (.string xs) := past1 _ qx_2
  replace qy_0 : ((((w.alloc (.cells #[.bool xn, .int .i64 xv, .string xs] 23)).alloc (.cells #[.bool yn, .int .i64 yv, .string ys] 23)).alloc (.cells #[.int .i64 ka, .int .i64 sa] 25)).alloc (.cells #[.int .i64 kb, .int .i64 sb] 25)).cell? ⟨w.heap.size + 1, 0, none⟩ = some (.bool yn) := past1 _ qy_0
  replace qy_1 : ((((w.alloc (.cells #[.bool xn, .int .i64 xv, .string xs] 23)).alloc (.cells #[.bool yn, .int .i64 yv, .string ys] 23)).alloc (.cells #[.int .i64 ka, .int .i64 sa] 25)).alloc (.cells #[.int .i64 kb, .int .i64 sb] 25)).cell? ⟨w.heap.size + 1, 1, none⟩ = some (.int .i64 yv) := past1 _ qy_1
  replace qy_2 : ((((w.alloc (.cells #[.bool xn, .int .i64 xv, .string xs] 23)).alloc (.cells #[.bool yn, .int .i64 yv, .string ys] 23)).alloc (.cells #[.int .i64 ka, .int .i64 sa] 25)).alloc (.cells #[.int .i64 kb, .int .i64 sb] 25)).cell? ⟨w.heap.size + 1, 2, none⟩ = some (.string ys) := past1 _ qy_2
  replace qa_0 : ((((w.alloc (.cells #[.bool xn, .int .i64 xv, .string xs] 23)).alloc (.cells #[.bool yn, .int .i64 yv, .string ys] 23)).alloc (.cells #[.int .i64 ka, .int .i64 sa] 25)).alloc (.cells #[.int .i64 kb, .int .i64 sb] 25)).cell? ⟨w.heap.size + 1 + 1, 0, none⟩ = some (.int .i64 ka) := past1 _ qa_0
  replace qa_1 : ((((w.alloc (.cells #[.bool xn, .int .i64 xv, .string xs] 23)).alloc (.cells #[.bool yn, .int .i64 yv, .string ys] 23)).alloc (.cells #[.int .i64 ka, .int .i64 sa] 25)).alloc (.cells #[.int .i64 kb, .int .i64 sb] 25)).cell? ⟨w.heap.size + 1 + 1, 1, none⟩ = some (.int .i64 sa) := past1 _ qa_1
  have qb_0 : ((((w.alloc (.cells #[.bool xn, .int .i64 xv, .string xs] 23)).alloc (.cells #[.bool yn, .int .i64 yv, .string ys] 23)).alloc (.cells #[.int .i64 ka, .int .i64 sa] 25)).alloc (.cells #[.int .i64 kb, .int .i64 sb] 25)).cell? ⟨w.heap.size + 1 + 1 + 1, 0, none⟩ = some (.int .i64 kb) := World.cell?_alloc_at _ _ _ _ (by simp)
  have qb_1 : ((((w.alloc (.cells #[.bool xn, .int .i64 xv, .string xs] 23)).alloc (.cells #[.bool yn, .int .i64 yv, .string ys] 23)).alloc (.cells #[.int .i64 ka, .int .i64 sa] 25)).alloc (.cells #[.int .i64 kb, .int .i64 sb] 25)).cell? ⟨w.heap.size + 1 + 1 + 1, 1, none⟩ = some (.int .i64 sb) := World.cell?_alloc_at _ _ _ _ (by simp)
  replace C := Lib.hid (ba C.out (.cells #[.int .i64 kb, .int .i64 sb] 25))
  go_enter Tryz.func8, Tryz.ntmps8
  go_wp2_with fail
  refine (rfits_any ka sa false xn xv xs _ _ H1.out).mono ?_
  rintro e w1 ⟨rfl, c⟩
  replace qx_0 : w1.cell? ⟨w.heap.size, 0, none⟩ = some (.bool xn) := cell_later c qx_0
  replace qx_1 : w1.cell? ⟨w.heap.size, 1, none⟩ = some (.int .i64 xv) := cell_later c qx_1
  replace qx_2 : w1.cell? ⟨w.heap.size, 2, none⟩ = some (.string xs) := cell_later c qx_2
  replace qy_0 : w1.cell? ⟨w.heap.size + 1, 0, none⟩ = some (.bool yn) := cell_later c qy_0
  replace qy_1 : w1.cell? ⟨w.heap.size + 1, 1, none⟩ = some (.int .i64 yv) := cell_later c qy_1
  replace qy_2 : w1.cell? ⟨w.heap.size + 1, 2, none⟩ = some (.string ys) := cell_later c qy_2
  replace qa_0 : w1.cell? ⟨w.heap.size + 1 + 1, 0, none⟩ = some (.int .i64 ka) := cell_later c qa_0
  replace qa_1 : w1.cell? ⟨w.heap.size + 1 + 1, 1, none⟩ = some (.int .i64 sa) := cell_later c qa_1
  replace qb_0 : w1.cell? ⟨w.heap.size + 1 + 1 + 1, 0, none⟩ = some (.int .i64 kb) := cell_later c qb_0
  replace qb_1 : w1.cell? ⟨w.heap.size + 1 + 1 + 1, 1, none⟩ = some (.int .i64 sb) := cell_later c qb_1
  have lx : w.heap.size < w1.heap.size := World.block_lt_of_cell? _ _ qx_0
  have ly : w.heap.size + 1 < w1.heap.size := World.block_lt_of_cell? _ _ qy_0
  have la : w.heap.size + 1 + 1 < w1.heap.size := World.block_lt_of_cell? _ _ qa_0
  have lb : w.heap.size + 1 + 1 + 1 < w1.heap.size := World.block_lt_of_cell? _ _ qb_0
  replace C := Lib.hid (bj C.out c)
  clear c
  go_wp2_with fail
  refine (rfits_any kb sb false yn yv ys _ _ H2.out).mono ?_
  rintro e w2 ⟨rfl, c⟩
  replace qx_0 : w2.cell? ⟨w.heap.size, 0, none⟩ = some (.bool xn) := cell_later c qx_0
  replace qx_1 : w2.cell? ⟨w.heap.size, 1, none⟩ = some (.int .i64 xv) := cell_later c qx_1
  replace qx_2 : w2.cell? ⟨w.heap.size, 2, none⟩ = some (.string xs) := cell_later c qx_2
  replace qy_0 : w2.cell? ⟨w.heap.size + 1, 0, none⟩ = some (.bool yn) := cell_later c qy_0
  replace qy_1 : w2.cell? ⟨w.heap.size + 1, 1, none⟩ = some (.int .i64 yv) := cell_later c qy_1
  replace qy_2 : w2.cell? ⟨w.heap.size + 1, 2, none⟩ = some (.string ys) := cell_later c qy_2
  replace qa_0 : w2.cell? ⟨w.heap.size + 1 + 1, 0, none⟩ = some (.int .i64 ka) := cell_later c qa_0
  replace qa_1 : w2.cell? ⟨w.heap.size + 1 + 1, 1, none⟩ = some (.int .i64 sa) := cell_later c qa_1
  replace qb_0 : w2.cell? ⟨w.heap.size + 1 + 1 + 1, 0, none⟩ = some (.int .i64 kb) := cell_later c qb_0
  replace qb_1 : w2.cell? ⟨w.heap.size + 1 + 1 + 1, 1, none⟩ = some (.int .i64 sb) := cell_later c qb_1
  clear lx
  have lx : w.heap.size < w2.heap.size := World.block_lt_of_cell? _ _ qx_0
  clear ly
  have ly : w.heap.size + 1 < w2.heap.size := World.block_lt_of_cell? _ _ qy_0
  clear la
  have la : w.heap.size + 1 + 1 < w2.heap.size := World.block_lt_of_cell? _ _ qa_0
  clear lb
  have lb : w.heap.size + 1 + 1 + 1 < w2.heap.size := World.block_lt_of_cell? _ _ qb_0
  replace C := Lib.hid (bj C.out c)
  clear c
  go_wp2_with fail
  have HZ := Lib.hid (show HeldRC w xn xv xs yn yv ys ka sa kb sb w2.drew from ⟨qx_0, qx_1, qx_2, qy_0, qy_1, qy_2, qa_0, qa_1, qb_0, qb_1, C.out.drew⟩)
  refine wp_region_held_drew (S := fun W => HeldRC w xn xv xs yn yv ys ka sa kb sb W) (by kernel_rfl) HZ.out (fun hHeld => ?_)
  refine take_yes (i := 0) (d := (some 22)) (v := ?_) rfl (by kernel_rfl) (by kernel_rfl) (by kernel_rfl) rfl (fun _ _ _ h => h) (by rfl) (by assumption) ?_ ?_
  rotate_left
  · (intro w hSw; (try dsimp only at hSw); go_simp; try with_reducible rfl)
  try simp only [Act.put, List.setIfInBounds_toArray, List.set_cons_zero, List.set_cons_succ]
  refine take_yes (i := 1) (d := (some 23)) (v := ?_) rfl (by kernel_rfl) (by kernel_rfl) (by kernel_rfl) rfl (fun _ _ _ h => h) (by rfl) (by assumption) ?_ ?_
  rotate_left
  · (intro w hSw; (try dsimp only at hSw); go_simp; try with_reducible rfl)
  try simp only [Act.put, List.setIfInBounds_toArray, List.set_cons_zero, List.set_cons_succ]
  refine take_yes (i := 2) (d := (some 24)) (v := ?_) rfl (by kernel_rfl) (by kernel_rfl) (by kernel_rfl) rfl (fun _ _ _ h => h) (by rfl) (by assumption) ?_ ?_
  rotate_left
  · (intro w hSw; (try dsimp only at hSw); go_simp; try with_reducible rfl)
  try simp only [Act.put, List.setIfInBounds_toArray, List.set_cons_zero, List.set_cons_succ]
  refine take_yes (i := 3) (d := (some 25)) (v := ?_) rfl (by kernel_rfl) (by kernel_rfl) (by kernel_rfl) rfl (fun _ _ _ h => h) (by rfl) (by assumption) ?_ ?_
  rotate_left
  · (intro w hSw; (try dsimp only at hSw); go_simp; try with_reducible rfl)
  try simp only [Act.put, List.setIfInBounds_toArray, List.set_cons_zero, List.set_cons_succ]
  refine take_yes (i := 4) (d := (some 26)) (v := ?_) rfl (by kernel_rfl) (by kernel_rfl) (by kernel_rfl) rfl (fun _ _ _ h => h) (by rfl) (by assumption) ?_ ?_
  rotate_left
  · (intro w hSw; (try dsimp only at hSw); go_simp; try with_reducible rfl)
  try simp only [Act.put, List.setIfInBounds_toArray, List.set_cons_zero, List.set_cons_succ]
  refine take_yes (i := 5) (d := (some 27)) (v := ?_) rfl (by kernel_rfl) (by kernel_rfl) (by kernel_rfl) rfl (fun _ _ _ h => h) (by rfl) (by assumption) ?_ ?_
  rotate_left
  · (intro w hSw; (try dsimp only at hSw); go_simp; try with_reducible rfl)
  try simp only [Act.put, List.setIfInBounds_toArray, List.set_cons_zero, List.set_cons_succ]
  refine take_yes (i := 6) (d := (some 28)) (v := ?_) rfl (by kernel_rfl) (by kernel_rfl) (by kernel_rfl) rfl (fun _ _ _ h => h) (by rfl) (by assumption) ?_ ?_
  rotate_left
  · (intro w hSw; (try dsimp only at hSw); go_simp; try with_reducible rfl)
  try simp only [Act.put, List.setIfInBounds_toArray, List.set_cons_zero, List.set_cons_succ]
  refine take_yes (i := 7) (d := (some 29)) (v := ?_) rfl (by kernel_rfl) (by kernel_rfl) (by kernel_rfl) rfl (fun _ _ _ h => h) (by rfl) (by assumption) ?_ ?_
  rotate_left
  · (intro w hSw; (try dsimp only at hSw); go_simp; try with_reducible rfl)
  try simp only [Act.put, List.setIfInBounds_toArray, List.set_cons_zero, List.set_cons_succ]
  refine take_yes (i := 9) (d := (some 31)) (v := ?_) rfl (by kernel_rfl) (by kernel_rfl) (by kernel_rfl) rfl (fun _ _ _ h => h) (by rfl) (by assumption) ?_ ?_
  rotate_left
  · (intro w hSw; (try dsimp only at hSw); go_simp; try with_reducible rfl)
  try simp only [Act.put, List.setIfInBounds_toArray, List.set_cons_zero, List.set_cons_succ]
  refine wpAnyH_ready (rs := [8]) (by kernel_rfl) (by simp) ?_
  refine AllReadyH.cons (o := _) rfl (fun K hK => ?_) AllReadyH.nil
  go_simp
  go_at_call 35
  refine (rnum_r _ _ _ K1.out _).mono ?_
  rintro e W2 ⟨rfl, c2⟩
  go_wp2_with fail
  refine hK.out _ _ (heldRC_later c2 (by assumption)) (fun hHeld => ?_)
  clear c2
  clear hK K
  try simp only [Act.put, List.setIfInBounds_toArray, List.set_cons_zero, List.set_cons_succ]
  refine wpAnyH_ready (rs := [10]) (by kernel_rfl) (by simp) ?_
  refine AllReadyH.cons (o := _) rfl (fun K hK => ?_) AllReadyH.nil
  go_simp
  go_at_call 35
  refine (rnum_r _ _ _ K2.out _).mono ?_
  rintro e W2 ⟨rfl, c2⟩
  go_wp2_with fail
  refine hK.out _ _ (heldRC_later c2 (by assumption)) (fun hHeld => ?_)
  clear c2
  clear hK K
  try simp only [Act.put, List.setIfInBounds_toArray, List.set_cons_zero, List.set_cons_succ]
  refine take_yes (i := 11) (d := (some 33)) (v := ?_) rfl (by kernel_rfl) (by kernel_rfl) (by kernel_rfl) rfl (fun _ _ _ h => h) (by rfl) (by assumption) ?_ ?_
  rotate_left
  · (intro w hSw; (try dsimp only at hSw); go_simp; try with_reducible rfl)
  try simp only [Act.put, List.setIfInBounds_toArray, List.set_cons_zero, List.set_cons_succ]
  refine take_yes (i := 12) (d := (some 34)) (v := ?_) rfl (by kernel_rfl) (by kernel_rfl) (by kernel_rfl) rfl (fun _ _ _ h => h) (by rfl) (by assumption) ?_ ?_
  rotate_left
  · (intro w hSw; (try dsimp only at hSw); go_simp; try with_reducible rfl)
  try simp only [Act.put, List.setIfInBounds_toArray, List.set_cons_zero, List.set_cons_succ]
  refine take_yes (i := 13) (d := (some 35)) (v := ?_) rfl (by kernel_rfl) (by kernel_rfl) (by kernel_rfl) rfl (fun _ _ _ h => h) (by rfl) (by assumption) ?_ ?_
  rotate_left
  · (intro w hSw; (try dsimp only at hSw); go_simp; try with_reducible rfl)
  try simp only [Act.put, List.setIfInBounds_toArray, List.set_cons_zero, List.set_cons_succ]
  refine take_no (i := 14) (d := (some 36)) rfl (by kernel_rfl) (by kernel_rfl) (by kernel_rfl) rfl (fun _ _ _ h => h) (by rfl) (by assumption) ?_
  try simp only [Act.put, List.setIfInBounds_toArray, List.set_cons_zero, List.set_cons_succ]
  refine take_no (i := 15) (d := (some 37)) rfl (by kernel_rfl) (by kernel_rfl) (by kernel_rfl) rfl (fun _ _ _ h => h) (by rfl) (by assumption) ?_
  try simp only [Act.put, List.setIfInBounds_toArray, List.set_cons_zero, List.set_cons_succ]
  refine take_no (i := 16) (d := (some 38)) rfl (by kernel_rfl) (by kernel_rfl) (by kernel_rfl) rfl (fun _ _ _ h => h) (by rfl) (by assumption) ?_
  try simp only [Act.put, List.setIfInBounds_toArray, List.set_cons_zero, List.set_cons_succ]
  refine take_no (i := 17) (d := (some 39)) rfl (by kernel_rfl) (by kernel_rfl) (by kernel_rfl) rfl (fun _ _ _ h => h) (by rfl) (by assumption) ?_
  try simp only [Act.put, List.setIfInBounds_toArray, List.set_cons_zero, List.set_cons_succ]
  refine take_no (i := 18) (d := (some 40)) rfl (by kernel_rfl) (by kernel_rfl) (by kernel_rfl) rfl (fun _ _ _ h => h) (by rfl) (by assumption) ?_
  try simp only [Act.put, List.setIfInBounds_toArray, List.set_cons_zero, List.set_cons_succ]
  refine take_no (i := 19) (d := (some 41)) rfl (by kernel_rfl) (by kernel_rfl) (by kernel_rfl) rfl (fun _ _ _ h => h) (by rfl) (by assumption) ?_
  try simp only [Act.put, List.setIfInBounds_toArray, List.set_cons_zero, List.set_cons_succ]
  refine take_no (i := 20) (d := (some 42)) rfl (by kernel_rfl) (by kernel_rfl) (by kernel_rfl) rfl (fun _ _ _ h => h) (by rfl) (by assumption) ?_
  try simp only [Act.put, List.setIfInBounds_toArray, List.set_cons_zero, List.set_cons_succ]
  refine take_no (i := 21) (d := (some 43)) rfl (by kernel_rfl) (by kernel_rfl) (by kernel_rfl) rfl (fun _ _ _ h => h) (by rfl) (by assumption) ?_
  try simp only [Act.put, List.setIfInBounds_toArray, List.set_cons_zero, List.set_cons_succ]
  refine take_no (i := 22) (d := (some 44)) rfl (by kernel_rfl) (by kernel_rfl) (by kernel_rfl) rfl (fun _ _ _ h => h) (by rfl) (by assumption) ?_
  try simp only [Act.put, List.setIfInBounds_toArray, List.set_cons_zero, List.set_cons_succ]
  refine take_no (i := 23) (d := (some 45)) rfl (by kernel_rfl) (by kernel_rfl) (by kernel_rfl) rfl (fun _ _ _ h => h) (by rfl) (by assumption) ?_
  try simp only [Act.put, List.setIfInBounds_toArray, List.set_cons_zero, List.set_cons_succ]
  refine take_yes (i := 24) (d := (some 46)) (v := ?_) rfl (by kernel_rfl) (by kernel_rfl) (by kernel_rfl) rfl (fun _ _ _ h => h) (by rfl) (by assumption) ?_ ?_
  rotate_left
  · (intro w hSw; (try dsimp only at hSw); go_simp; try with_reducible rfl)
  try simp only [Act.put, List.setIfInBounds_toArray, List.set_cons_zero, List.set_cons_succ]
  refine wpAnyH_done (by kernel_rfl) ?_ _
  all_goals
    go_wp2_with fail
    go_ret2
    exact ⟨by simp, (‹HeldRC w xn xv xs yn yv ys ka sa kb sb _›).2.2.2.2.2.2.2.2.2.2⟩
set_option maxRecDepth 100000 in
set_option maxHeartbeats 4000000 in
theorem rcmp_no_n2 (xn yn : Bool) (xv yv ka sa kb sb : Int) (xs ys : ByteArray) (h1 : fitsB ⟨ka, sa⟩ false ⟨xn, xv, xs⟩ = true) (h2 : fitsB ⟨kb, sb⟩ false ⟨yn, yv, ys⟩ = true) (k1 : RNum ka false) (k2 : RNum kb true) (w : World) : Calls Tryz.prog 8 #[.agg #[.bool xn, .int .i64 xv, .string xs], .agg #[.bool yn, .int .i64 yv, .string ys], .agg #[.int .i64 ka, .int .i64 sa], .agg #[.int .i64 kb, .int .i64 sb]] w fun e w' => e = .returned (.tuple #[.int .i64 0, .bool false]) ∧ Below w.heap.size w w' := by
  have H1 := Lib.hid h1
  have H2 := Lib.hid h2
  have K1 := Lib.hid k1
  have K2 := Lib.hid k2
  clear h1 h2 k1 k2
  have C := Lib.hid (below0 w)
  have qx_0 : (w.alloc (.cells #[.bool xn, .int .i64 xv, .string xs] 23)).cell? ⟨w.heap.size, 0, none⟩ = some (.bool xn) := World.cell?_alloc_at _ _ _ _ (rfl)
  have qx_1 : (w.alloc (.cells #[.bool xn, .int .i64 xv, .string xs] 23)).cell? ⟨w.heap.size, 1, none⟩ = some (.int .i64 xv) := World.cell?_alloc_at _ _ _ _ (rfl)
  have qx_2 : (w.alloc (.cells #[.bool xn, .int .i64 xv, .string xs] 23)).cell? ⟨w.heap.size, 2, none⟩ = some (.string xs) := World.cell?_alloc_at _ _ _ _ (rfl)
  replace C := Lib.hid (ba C.out (.cells #[.bool xn, .int .i64 xv, .string xs] 23))
  replace qx_0 : ((w.alloc (.cells #[.bool xn, .int .i64 xv, .string xs] 23)).alloc (.cells #[.bool yn, .int .i64 yv, .string ys] 23)).cell? ⟨w.heap.size, 0, none⟩ = some (.bool xn) := past1 _ qx_0
  replace qx_1 : ((w.alloc (.cells #[.bool xn, .int .i64 xv, .string xs] 23)).alloc (.cells #[.bool yn, .int .i64 yv, .string ys] 23)).cell? ⟨w.heap.size, 1, none⟩ = some (.int .i64 xv) := past1 _ qx_1
  replace qx_2 : ((w.alloc (.cells #[.bool xn, .int .i64 xv, .string xs] 23)).alloc (.cells #[.bool yn, .int .i64 yv, .string ys] 23)).cell? ⟨w.heap.size, 2, none⟩ = some (.string xs) := past1 _ qx_2
  have qy_0 : ((w.alloc (.cells #[.bool xn, .int .i64 xv, .string xs] 23)).alloc (.cells #[.bool yn, .int .i64 yv, .string ys] 23)).cell? ⟨w.heap.size + 1, 0, none⟩ = some (.bool yn) := World.cell?_alloc_at _ _ _ _ (by simp)
  have qy_1 : ((w.alloc (.cells #[.bool xn, .int .i64 xv, .string xs] 23)).alloc (.cells #[.bool yn, .int .i64 yv, .string ys] 23)).cell? ⟨w.heap.size + 1, 1, none⟩ = some (.int .i64 yv) := World.cell?_alloc_at _ _ _ _ (by simp)
  have qy_2 : ((w.alloc (.cells #[.bool xn, .int .i64 xv, .string xs] 23)).alloc (.cells #[.bool yn, .int .i64 yv, .string ys] 23)).cell? ⟨w.heap.size + 1, 2, none⟩ = some (.string ys) := World.cell?_alloc_at _ _ _ _ (by simp)
  replace C := Lib.hid (ba C.out (.cells #[.bool yn, .int .i64 yv, .string ys] 23))
  replace qx_0 : (((w.alloc (.cells #[.bool xn, .int .i64 xv, .string xs] 23)).alloc (.cells #[.bool yn, .int .i64 yv, .string ys] 23)).alloc (.cells #[.int .i64 ka, .int .i64 sa] 25)).cell? ⟨w.heap.size, 0, none⟩ = some (.bool xn) := past1 _ qx_0
  replace qx_1 : (((w.alloc (.cells #[.bool xn, .int .i64 xv, .string xs] 23)).alloc (.cells #[.bool yn, .int .i64 yv, .string ys] 23)).alloc (.cells #[.int .i64 ka, .int .i64 sa] 25)).cell? ⟨w.heap.size, 1, none⟩ = some (.int .i64 xv) := past1 _ qx_1
  replace qx_2 : (((w.alloc (.cells #[.bool xn, .int .i64 xv, .string xs] 23)).alloc (.cells #[.bool yn, .int .i64 yv, .string ys] 23)).alloc (.cells #[.int .i64 ka, .int .i64 sa] 25)).cell? ⟨w.heap.size, 2, none⟩ = some (.string xs) := past1 _ qx_2
  replace qy_0 : (((w.alloc (.cells #[.bool xn, .int .i64 xv, .string xs] 23)).alloc (.cells #[.bool yn, .int .i64 yv, .string ys] 23)).alloc (.cells #[.int .i64 ka, .int .i64 sa] 25)).cell? ⟨w.heap.size + 1, 0, none⟩ = some (.bool yn) := past1 _ qy_0
  replace qy_1 : (((w.alloc (.cells #[.bool xn, .int .i64 xv, .string xs] 23)).alloc (.cells #[.bool yn, .int .i64 yv, .string ys] 23)).alloc (.cells #[.int .i64 ka, .int .i64 sa] 25)).cell? ⟨w.heap.size + 1, 1, none⟩ = some (.int .i64 yv) := past1 _ qy_1
  replace qy_2 : (((w.alloc (.cells #[.bool xn, .int .i64 xv, .string xs] 23)).alloc (.cells #[.bool yn, .int .i64 yv, .string ys] 23)).alloc (.cells #[.int .i64 ka, .int .i64 sa] 25)).cell? ⟨w.heap.size + 1, 2, none⟩ = some (.string ys) := past1 _ qy_2
  have qa_0 : (((w.alloc (.cells #[.bool xn, .int .i64 xv, .string xs] 23)).alloc (.cells #[.bool yn, .int .i64 yv, .string ys] 23)).alloc (.cells #[.int .i64 ka, .int .i64 sa] 25)).cell? ⟨w.heap.size + 1 + 1, 0, none⟩ = some (.int .i64 ka) := World.cell?_alloc_at _ _ _ _ (by simp)
  have qa_1 : (((w.alloc (.cells #[.bool xn, .int .i64 xv, .string xs] 23)).alloc (.cells #[.bool yn, .int .i64 yv, .string ys] 23)).alloc (.cells #[.int .i64 ka, .int .i64 sa] 25)).cell? ⟨w.heap.size + 1 + 1, 1, none⟩ = some (.int .i64 sa) := World.cell?_alloc_at _ _ _ _ (by simp)
  replace C := Lib.hid (ba C.out (.cells #[.int .i64 ka, .int .i64 sa] 25))
  replace qx_0 : ((((w.alloc (.cells #[.bool xn, .int .i64 xv, .string xs] 23)).alloc (.cells #[.bool yn, .int .i64 yv, .string ys] 23)).alloc (.cells #[.int .i64 ka, .int .i64 sa] 25)).alloc (.cells #[.int .i64 kb, .int .i64 sb] 25)).cell? ⟨w.heap.size, 0, none⟩ = some (.bool xn) := past1 _ qx_0
  replace qx_1 : ((((w.alloc (.cells #[.bool xn, .int .i64 xv, .string xs] 23)).alloc (.cells #[.bool yn, .int .i64 yv, .string ys] 23)).alloc (.cells #[.int .i64 ka, .int .i64 sa] 25)).alloc (.cells #[.int .i64 kb, .int .i64 sb] 25)).cell? ⟨w.heap.size, 1, none⟩ = some (.int .i64 xv) := past1 _ qx_1
  replace qx_2 : ((((w.alloc (.cells #[.bool xn, .int .i64 xv, .string xs] 23)).alloc (.cells #[.bool yn, .int .i64 yv, .string ys] 23)).alloc (.cells #[.int .i64 ka, .int .i64 sa] 25)).alloc (.cells #[.int .i64 kb, .int .i64 sb] 25)).cell? ⟨w.heap.size, 2, none⟩ = some (.string xs) := past1 _ qx_2
  replace qy_0 : ((((w.alloc (.cells #[.bool xn, .int .i64 xv, .string xs] 23)).alloc (.cells #[.bool yn, .int .i64 yv, .string ys] 23)).alloc (.cells #[.int .i64 ka, .int .i64 sa] 25)).alloc (.cells #[.int .i64 kb, .int .i64 sb] 25)).cell? ⟨w.heap.size + 1, 0, none⟩ = some (.bool yn) := past1 _ qy_0
  replace qy_1 : ((((w.alloc (.cells #[.bool xn, .int .i64 xv, .string xs] 23)).alloc (.cells #[.bool yn, .int .i64 yv, .string ys] 23)).alloc (.cells #[.int .i64 ka, .int .i64 sa] 25)).alloc (.cells #[.int .i64 kb, .int .i64 sb] 25)).cell? ⟨w.heap.size + 1, 1, none⟩ = some (.int .i64 yv) := past1 _ qy_1
  replace qy_2 : ((((w.alloc (.cells #[.bool xn, .int .i64 xv, .string xs] 23)).alloc (.cells #[.bool yn, .int .i64 yv, .string ys] 23)).alloc (.cells #[.int .i64 ka, .int .i64 sa] 25)).alloc (.cells #[.int .i64 kb, .int .i64 sb] 25)).cell? ⟨w.heap.size + 1, 2, none⟩ = some (.string ys) := past1 _ qy_2
  replace qa_0 : ((((w.alloc (.cells #[.bool xn, .int .i64 xv, .string xs] 23)).alloc (.cells #[.bool yn, .int .i64 yv, .string ys] 23)).alloc (.cells #[.int .i64 ka, .int .i64 sa] 25)).alloc (.cells #[.int .i64 kb, .int .i64 sb] 25)).cell? ⟨w.heap.size + 1 + 1, 0, none⟩ = some (.int .i64 ka) := past1 _ qa_0
  replace qa_1 : ((((w.alloc (.cells #[.bool xn, .int .i64 xv, .string xs] 23)).alloc (.cells #[.bool yn, .int .i64 yv, .string ys] 23)).alloc (.cells #[.int .i64 ka, .int .i64 sa] 25)).alloc (.cells #[.int .i64 kb, .int .i64 sb] 25)).cell? ⟨w.heap.size + 1 + 1, 1, none⟩ = some (.int .i64 sa) := past1 _ qa_1
  have qb_0 : ((((w.alloc (.cells #[.bool xn, .int .i64 xv, .string xs] 23)).alloc (.cells #[.bool yn, .int .i64 yv, .string ys] 23)).alloc (.cells #[.int .i64 ka, .int .i64 sa] 25)).alloc (.cells #[.int .i64 kb, .int .i64 sb] 25)).cell? ⟨w.heap.size + 1 + 1 + 1, 0, none⟩ = some (.int .i64 kb) := World.cell?_alloc_at _ _ _ _ (by simp)
  have qb_1 : ((((w.alloc (.cells #[.bool xn, .int .i64 xv, .string xs] 23)).alloc (.cells #[.bool yn, .int .i64 yv, .string ys] 23)).alloc (.cells #[.int .i64 ka, .int .i64 sa] 25)).alloc (.cells #[.int .i64 kb, .int .i64 sb] 25)).cell? ⟨w.heap.size + 1 + 1 + 1, 1, none⟩ = some (.int .i64 sb) := World.cell?_alloc_at _ _ _ _ (by simp)
  replace C := Lib.hid (ba C.out (.cells #[.int .i64 kb, .int .i64 sb] 25))
  go_enter Tryz.func8, Tryz.ntmps8
  go_wp2_with fail
  refine (rfits_any ka sa false xn xv xs _ _ H1.out).mono ?_
  rintro e w1 ⟨rfl, c⟩
  replace qx_0 : w1.cell? ⟨w.heap.size, 0, none⟩ = some (.bool xn) := cell_later c qx_0
  replace qx_1 : w1.cell? ⟨w.heap.size, 1, none⟩ = some (.int .i64 xv) := cell_later c qx_1
  replace qx_2 : w1.cell? ⟨w.heap.size, 2, none⟩ = some (.string xs) := cell_later c qx_2
  replace qy_0 : w1.cell? ⟨w.heap.size + 1, 0, none⟩ = some (.bool yn) := cell_later c qy_0
  replace qy_1 : w1.cell? ⟨w.heap.size + 1, 1, none⟩ = some (.int .i64 yv) := cell_later c qy_1
  replace qy_2 : w1.cell? ⟨w.heap.size + 1, 2, none⟩ = some (.string ys) := cell_later c qy_2
  replace qa_0 : w1.cell? ⟨w.heap.size + 1 + 1, 0, none⟩ = some (.int .i64 ka) := cell_later c qa_0
  replace qa_1 : w1.cell? ⟨w.heap.size + 1 + 1, 1, none⟩ = some (.int .i64 sa) := cell_later c qa_1
  replace qb_0 : w1.cell? ⟨w.heap.size + 1 + 1 + 1, 0, none⟩ = some (.int .i64 kb) := cell_later c qb_0
  replace qb_1 : w1.cell? ⟨w.heap.size + 1 + 1 + 1, 1, none⟩ = some (.int .i64 sb) := cell_later c qb_1
  have lx : w.heap.size < w1.heap.size := World.block_lt_of_cell? _ _ qx_0
  have ly : w.heap.size + 1 < w1.heap.size := World.block_lt_of_cell? _ _ qy_0
  have la : w.heap.size + 1 + 1 < w1.heap.size := World.block_lt_of_cell? _ _ qa_0
  have lb : w.heap.size + 1 + 1 + 1 < w1.heap.size := World.block_lt_of_cell? _ _ qb_0
  replace C := Lib.hid (bj C.out c)
  clear c
  go_wp2_with fail
  refine (rfits_any kb sb false yn yv ys _ _ H2.out).mono ?_
  rintro e w2 ⟨rfl, c⟩
  replace qx_0 : w2.cell? ⟨w.heap.size, 0, none⟩ = some (.bool xn) := cell_later c qx_0
  replace qx_1 : w2.cell? ⟨w.heap.size, 1, none⟩ = some (.int .i64 xv) := cell_later c qx_1
  replace qx_2 : w2.cell? ⟨w.heap.size, 2, none⟩ = some (.string xs) := cell_later c qx_2
  replace qy_0 : w2.cell? ⟨w.heap.size + 1, 0, none⟩ = some (.bool yn) := cell_later c qy_0
  replace qy_1 : w2.cell? ⟨w.heap.size + 1, 1, none⟩ = some (.int .i64 yv) := cell_later c qy_1
  replace qy_2 : w2.cell? ⟨w.heap.size + 1, 2, none⟩ = some (.string ys) := cell_later c qy_2
  replace qa_0 : w2.cell? ⟨w.heap.size + 1 + 1, 0, none⟩ = some (.int .i64 ka) := cell_later c qa_0
  replace qa_1 : w2.cell? ⟨w.heap.size + 1 + 1, 1, none⟩ = some (.int .i64 sa) := cell_later c qa_1
  replace qb_0 : w2.cell? ⟨w.heap.size + 1 + 1 + 1, 0, none⟩ = some (.int .i64 kb) := cell_later c qb_0
  replace qb_1 : w2.cell? ⟨w.heap.size + 1 + 1 + 1, 1, none⟩ = some (.int .i64 sb) := cell_later c qb_1
  clear lx
  have lx : w.heap.size < w2.heap.size := World.block_lt_of_cell? _ _ qx_0
  clear ly
  have ly : w.heap.size + 1 < w2.heap.size := World.block_lt_of_cell? _ _ qy_0
  clear la
  have la : w.heap.size + 1 + 1 < w2.heap.size := World.block_lt_of_cell? _ _ qa_0
  clear lb
  have lb : w.heap.size + 1 + 1 + 1 < w2.heap.size := World.block_lt_of_cell? _ _ qb_0
  replace C := Lib.hid (bj C.out c)
  clear c
  go_wp2_with fail
  have HZ := Lib.hid (show HeldRC w xn xv xs yn yv ys ka sa kb sb w2.drew from ⟨qx_0, qx_1, qx_2, qy_0, qy_1, qy_2, qa_0, qa_1, qb_0, qb_1, C.out.drew⟩)
  refine wp_region_held_drew (S := fun W => HeldRC w xn xv xs yn yv ys ka sa kb sb W) (by kernel_rfl) HZ.out (fun hHeld => ?_)
  refine take_yes (i := 0) (d := (some 22)) (v := ?_) rfl (by kernel_rfl) (by kernel_rfl) (by kernel_rfl) rfl (fun _ _ _ h => h) (by rfl) (by assumption) ?_ ?_
  rotate_left
  · (intro w hSw; (try dsimp only at hSw); go_simp; try with_reducible rfl)
  try simp only [Act.put, List.setIfInBounds_toArray, List.set_cons_zero, List.set_cons_succ]
  refine take_yes (i := 1) (d := (some 23)) (v := ?_) rfl (by kernel_rfl) (by kernel_rfl) (by kernel_rfl) rfl (fun _ _ _ h => h) (by rfl) (by assumption) ?_ ?_
  rotate_left
  · (intro w hSw; (try dsimp only at hSw); go_simp; try with_reducible rfl)
  try simp only [Act.put, List.setIfInBounds_toArray, List.set_cons_zero, List.set_cons_succ]
  refine take_yes (i := 2) (d := (some 24)) (v := ?_) rfl (by kernel_rfl) (by kernel_rfl) (by kernel_rfl) rfl (fun _ _ _ h => h) (by rfl) (by assumption) ?_ ?_
  rotate_left
  · (intro w hSw; (try dsimp only at hSw); go_simp; try with_reducible rfl)
  try simp only [Act.put, List.setIfInBounds_toArray, List.set_cons_zero, List.set_cons_succ]
  refine take_yes (i := 3) (d := (some 25)) (v := ?_) rfl (by kernel_rfl) (by kernel_rfl) (by kernel_rfl) rfl (fun _ _ _ h => h) (by rfl) (by assumption) ?_ ?_
  rotate_left
  · (intro w hSw; (try dsimp only at hSw); go_simp; try with_reducible rfl)
  try simp only [Act.put, List.setIfInBounds_toArray, List.set_cons_zero, List.set_cons_succ]
  refine take_yes (i := 4) (d := (some 26)) (v := ?_) rfl (by kernel_rfl) (by kernel_rfl) (by kernel_rfl) rfl (fun _ _ _ h => h) (by rfl) (by assumption) ?_ ?_
  rotate_left
  · (intro w hSw; (try dsimp only at hSw); go_simp; try with_reducible rfl)
  try simp only [Act.put, List.setIfInBounds_toArray, List.set_cons_zero, List.set_cons_succ]
  refine take_yes (i := 5) (d := (some 27)) (v := ?_) rfl (by kernel_rfl) (by kernel_rfl) (by kernel_rfl) rfl (fun _ _ _ h => h) (by rfl) (by assumption) ?_ ?_
  rotate_left
  · (intro w hSw; (try dsimp only at hSw); go_simp; try with_reducible rfl)
  try simp only [Act.put, List.setIfInBounds_toArray, List.set_cons_zero, List.set_cons_succ]
  refine take_yes (i := 6) (d := (some 28)) (v := ?_) rfl (by kernel_rfl) (by kernel_rfl) (by kernel_rfl) rfl (fun _ _ _ h => h) (by rfl) (by assumption) ?_ ?_
  rotate_left
  · (intro w hSw; (try dsimp only at hSw); go_simp; try with_reducible rfl)
  try simp only [Act.put, List.setIfInBounds_toArray, List.set_cons_zero, List.set_cons_succ]
  refine take_yes (i := 7) (d := (some 29)) (v := ?_) rfl (by kernel_rfl) (by kernel_rfl) (by kernel_rfl) rfl (fun _ _ _ h => h) (by rfl) (by assumption) ?_ ?_
  rotate_left
  · (intro w hSw; (try dsimp only at hSw); go_simp; try with_reducible rfl)
  try simp only [Act.put, List.setIfInBounds_toArray, List.set_cons_zero, List.set_cons_succ]
  refine take_yes (i := 9) (d := (some 31)) (v := ?_) rfl (by kernel_rfl) (by kernel_rfl) (by kernel_rfl) rfl (fun _ _ _ h => h) (by rfl) (by assumption) ?_ ?_
  rotate_left
  · (intro w hSw; (try dsimp only at hSw); go_simp; try with_reducible rfl)
  try simp only [Act.put, List.setIfInBounds_toArray, List.set_cons_zero, List.set_cons_succ]
  refine wpAnyH_ready (rs := [8]) (by kernel_rfl) (by simp) ?_
  refine AllReadyH.cons (o := _) rfl (fun K hK => ?_) AllReadyH.nil
  go_simp
  go_at_call 35
  refine (rnum_r _ _ _ K1.out _).mono ?_
  rintro e W2 ⟨rfl, c2⟩
  go_wp2_with fail
  refine hK.out _ _ (heldRC_later c2 (by assumption)) (fun hHeld => ?_)
  clear c2
  clear hK K
  try simp only [Act.put, List.setIfInBounds_toArray, List.set_cons_zero, List.set_cons_succ]
  refine wpAnyH_ready (rs := [10]) (by kernel_rfl) (by simp) ?_
  refine AllReadyH.cons (o := _) rfl (fun K hK => ?_) AllReadyH.nil
  go_simp
  go_at_call 35
  refine (rnum_r _ _ _ K2.out _).mono ?_
  rintro e W2 ⟨rfl, c2⟩
  go_wp2_with fail
  refine hK.out _ _ (heldRC_later c2 (by assumption)) (fun hHeld => ?_)
  clear c2
  clear hK K
  try simp only [Act.put, List.setIfInBounds_toArray, List.set_cons_zero, List.set_cons_succ]
  refine take_yes (i := 11) (d := (some 33)) (v := ?_) rfl (by kernel_rfl) (by kernel_rfl) (by kernel_rfl) rfl (fun _ _ _ h => h) (by rfl) (by assumption) ?_ ?_
  rotate_left
  · (intro w hSw; (try dsimp only at hSw); go_simp; try with_reducible rfl)
  try simp only [Act.put, List.setIfInBounds_toArray, List.set_cons_zero, List.set_cons_succ]
  refine take_yes (i := 12) (d := (some 34)) (v := ?_) rfl (by kernel_rfl) (by kernel_rfl) (by kernel_rfl) rfl (fun _ _ _ h => h) (by rfl) (by assumption) ?_ ?_
  rotate_left
  · (intro w hSw; (try dsimp only at hSw); go_simp; try with_reducible rfl)
  try simp only [Act.put, List.setIfInBounds_toArray, List.set_cons_zero, List.set_cons_succ]
  refine take_yes (i := 13) (d := (some 35)) (v := ?_) rfl (by kernel_rfl) (by kernel_rfl) (by kernel_rfl) rfl (fun _ _ _ h => h) (by rfl) (by assumption) ?_ ?_
  rotate_left
  · (intro w hSw; (try dsimp only at hSw); go_simp; try with_reducible rfl)
  try simp only [Act.put, List.setIfInBounds_toArray, List.set_cons_zero, List.set_cons_succ]
  refine take_no (i := 14) (d := (some 36)) rfl (by kernel_rfl) (by kernel_rfl) (by kernel_rfl) rfl (fun _ _ _ h => h) (by rfl) (by assumption) ?_
  try simp only [Act.put, List.setIfInBounds_toArray, List.set_cons_zero, List.set_cons_succ]
  refine take_no (i := 15) (d := (some 37)) rfl (by kernel_rfl) (by kernel_rfl) (by kernel_rfl) rfl (fun _ _ _ h => h) (by rfl) (by assumption) ?_
  try simp only [Act.put, List.setIfInBounds_toArray, List.set_cons_zero, List.set_cons_succ]
  refine take_no (i := 16) (d := (some 38)) rfl (by kernel_rfl) (by kernel_rfl) (by kernel_rfl) rfl (fun _ _ _ h => h) (by rfl) (by assumption) ?_
  try simp only [Act.put, List.setIfInBounds_toArray, List.set_cons_zero, List.set_cons_succ]
  refine take_no (i := 17) (d := (some 39)) rfl (by kernel_rfl) (by kernel_rfl) (by kernel_rfl) rfl (fun _ _ _ h => h) (by rfl) (by assumption) ?_
  try simp only [Act.put, List.setIfInBounds_toArray, List.set_cons_zero, List.set_cons_succ]
  refine take_no (i := 18) (d := (some 40)) rfl (by kernel_rfl) (by kernel_rfl) (by kernel_rfl) rfl (fun _ _ _ h => h) (by rfl) (by assumption) ?_
  try simp only [Act.put, List.setIfInBounds_toArray, List.set_cons_zero, List.set_cons_succ]
  refine take_no (i := 19) (d := (some 41)) rfl (by kernel_rfl) (by kernel_rfl) (by kernel_rfl) rfl (fun _ _ _ h => h) (by rfl) (by assumption) ?_
  try simp only [Act.put, List.setIfInBounds_toArray, List.set_cons_zero, List.set_cons_succ]
  refine take_no (i := 20) (d := (some 42)) rfl (by kernel_rfl) (by kernel_rfl) (by kernel_rfl) rfl (fun _ _ _ h => h) (by rfl) (by assumption) ?_
  try simp only [Act.put, List.setIfInBounds_toArray, List.set_cons_zero, List.set_cons_succ]
  refine take_no (i := 21) (d := (some 43)) rfl (by kernel_rfl) (by kernel_rfl) (by kernel_rfl) rfl (fun _ _ _ h => h) (by rfl) (by assumption) ?_
  try simp only [Act.put, List.setIfInBounds_toArray, List.set_cons_zero, List.set_cons_succ]
  refine take_no (i := 22) (d := (some 44)) rfl (by kernel_rfl) (by kernel_rfl) (by kernel_rfl) rfl (fun _ _ _ h => h) (by rfl) (by assumption) ?_
  try simp only [Act.put, List.setIfInBounds_toArray, List.set_cons_zero, List.set_cons_succ]
  refine take_no (i := 23) (d := (some 45)) rfl (by kernel_rfl) (by kernel_rfl) (by kernel_rfl) rfl (fun _ _ _ h => h) (by rfl) (by assumption) ?_
  try simp only [Act.put, List.setIfInBounds_toArray, List.set_cons_zero, List.set_cons_succ]
  refine take_yes (i := 24) (d := (some 46)) (v := ?_) rfl (by kernel_rfl) (by kernel_rfl) (by kernel_rfl) rfl (fun _ _ _ h => h) (by rfl) (by assumption) ?_ ?_
  rotate_left
  · (intro w hSw; (try dsimp only at hSw); go_simp; try with_reducible rfl)
  try simp only [Act.put, List.setIfInBounds_toArray, List.set_cons_zero, List.set_cons_succ]
  refine wpAnyH_done (by kernel_rfl) ?_ _
  all_goals
    go_wp2_with fail
    go_ret2
    exact ⟨by simp, (‹HeldRC w xn xv xs yn yv ys ka sa kb sb _›).2.2.2.2.2.2.2.2.2.2⟩
set_option maxRecDepth 100000 in
set_option maxHeartbeats 4000000 in
theorem rcmp_no_k (xn yn : Bool) (xv yv ka sa kb sb : Int) (xs ys : ByteArray) (hk : (ka != kb) = true) (hk0 : (ka == kb) = false) (h1 : fitsB ⟨ka, sa⟩ false ⟨xn, xv, xs⟩ = true) (h2 : fitsB ⟨kb, sb⟩ false ⟨yn, yv, ys⟩ = true) (k1 : RNum ka false) (k2 : RNum kb false) (w : World) : Calls Tryz.prog 8 #[.agg #[.bool xn, .int .i64 xv, .string xs], .agg #[.bool yn, .int .i64 yv, .string ys], .agg #[.int .i64 ka, .int .i64 sa], .agg #[.int .i64 kb, .int .i64 sb]] w fun e w' => e = .returned (.tuple #[.int .i64 0, .bool false]) ∧ Below w.heap.size w w' := by
  have H1 := Lib.hid h1
  have H2 := Lib.hid h2
  have K1 := Lib.hid k1
  have K2 := Lib.hid k2
  clear h1 h2 k1 k2
  have C := Lib.hid (below0 w)
  have qx_0 : (w.alloc (.cells #[.bool xn, .int .i64 xv, .string xs] 23)).cell? ⟨w.heap.size, 0, none⟩ = some (.bool xn) := World.cell?_alloc_at _ _ _ _ (rfl)
  have qx_1 : (w.alloc (.cells #[.bool xn, .int .i64 xv, .string xs] 23)).cell? ⟨w.heap.size, 1, none⟩ = some (.int .i64 xv) := World.cell?_alloc_at _ _ _ _ (rfl)
  have qx_2 : (w.alloc (.cells #[.bool xn, .int .i64 xv, .string xs] 23)).cell? ⟨w.heap.size, 2, none⟩ = some (.string xs) := World.cell?_alloc_at _ _ _ _ (rfl)
  replace C := Lib.hid (ba C.out (.cells #[.bool xn, .int .i64 xv, .string xs] 23))
  replace qx_0 : ((w.alloc (.cells #[.bool xn, .int .i64 xv, .string xs] 23)).alloc (.cells #[.bool yn, .int .i64 yv, .string ys] 23)).cell? ⟨w.heap.size, 0, none⟩ = some (.bool xn) := past1 _ qx_0
  replace qx_1 : ((w.alloc (.cells #[.bool xn, .int .i64 xv, .string xs] 23)).alloc (.cells #[.bool yn, .int .i64 yv, .string ys] 23)).cell? ⟨w.heap.size, 1, none⟩ = some (.int .i64 xv) := past1 _ qx_1
  replace qx_2 : ((w.alloc (.cells #[.bool xn, .int .i64 xv, .string xs] 23)).alloc (.cells #[.bool yn, .int .i64 yv, .string ys] 23)).cell? ⟨w.heap.size, 2, none⟩ = some (.string xs) := past1 _ qx_2
  have qy_0 : ((w.alloc (.cells #[.bool xn, .int .i64 xv, .string xs] 23)).alloc (.cells #[.bool yn, .int .i64 yv, .string ys] 23)).cell? ⟨w.heap.size + 1, 0, none⟩ = some (.bool yn) := World.cell?_alloc_at _ _ _ _ (by simp)
  have qy_1 : ((w.alloc (.cells #[.bool xn, .int .i64 xv, .string xs] 23)).alloc (.cells #[.bool yn, .int .i64 yv, .string ys] 23)).cell? ⟨w.heap.size + 1, 1, none⟩ = some (.int .i64 yv) := World.cell?_alloc_at _ _ _ _ (by simp)
  have qy_2 : ((w.alloc (.cells #[.bool xn, .int .i64 xv, .string xs] 23)).alloc (.cells #[.bool yn, .int .i64 yv, .string ys] 23)).cell? ⟨w.heap.size + 1, 2, none⟩ = some (.string ys) := World.cell?_alloc_at _ _ _ _ (by simp)
  replace C := Lib.hid (ba C.out (.cells #[.bool yn, .int .i64 yv, .string ys] 23))
  replace qx_0 : (((w.alloc (.cells #[.bool xn, .int .i64 xv, .string xs] 23)).alloc (.cells #[.bool yn, .int .i64 yv, .string ys] 23)).alloc (.cells #[.int .i64 ka, .int .i64 sa] 25)).cell? ⟨w.heap.size, 0, none⟩ = some (.bool xn) := past1 _ qx_0
  replace qx_1 : (((w.alloc (.cells #[.bool xn, .int .i64 xv, .string xs] 23)).alloc (.cells #[.bool yn, .int .i64 yv, .string ys] 23)).alloc (.cells #[.int .i64 ka, .int .i64 sa] 25)).cell? ⟨w.heap.size, 1, none⟩ = some (.int .i64 xv) := past1 _ qx_1
  replace qx_2 : (((w.alloc (.cells #[.bool xn, .int .i64 xv, .string xs] 23)).alloc (.cells #[.bool yn, .int .i64 yv, .string ys] 23)).alloc (.cells #[.int .i64 ka, .int .i64 sa] 25)).cell? ⟨w.heap.size, 2, none⟩ = some (.string xs) := past1 _ qx_2
  replace qy_0 : (((w.alloc (.cells #[.bool xn, .int .i64 xv, .string xs] 23)).alloc (.cells #[.bool yn, .int .i64 yv, .string ys] 23)).alloc (.cells #[.int .i64 ka, .int .i64 sa] 25)).cell? ⟨w.heap.size + 1, 0, none⟩ = some (.bool yn) := past1 _ qy_0
  replace qy_1 : (((w.alloc (.cells #[.bool xn, .int .i64 xv, .string xs] 23)).alloc (.cells #[.bool yn, .int .i64 yv, .string ys] 23)).alloc (.cells #[.int .i64 ka, .int .i64 sa] 25)).cell? ⟨w.heap.size + 1, 1, none⟩ = some (.int .i64 yv) := past1 _ qy_1
  replace qy_2 : (((w.alloc (.cells #[.bool xn, .int .i64 xv, .string xs] 23)).alloc (.cells #[.bool yn, .int .i64 yv, .string ys] 23)).alloc (.cells #[.int .i64 ka, .int .i64 sa] 25)).cell? ⟨w.heap.size + 1, 2, none⟩ = some (.string ys) := past1 _ qy_2
  have qa_0 : (((w.alloc (.cells #[.bool xn, .int .i64 xv, .string xs] 23)).alloc (.cells #[.bool yn, .int .i64 yv, .string ys] 23)).alloc (.cells #[.int .i64 ka, .int .i64 sa] 25)).cell? ⟨w.heap.size + 1 + 1, 0, none⟩ = some (.int .i64 ka) := World.cell?_alloc_at _ _ _ _ (by simp)
  have qa_1 : (((w.alloc (.cells #[.bool xn, .int .i64 xv, .string xs] 23)).alloc (.cells #[.bool yn, .int .i64 yv, .string ys] 23)).alloc (.cells #[.int .i64 ka, .int .i64 sa] 25)).cell? ⟨w.heap.size + 1 + 1, 1, none⟩ = some (.int .i64 sa) := World.cell?_alloc_at _ _ _ _ (by simp)
  replace C := Lib.hid (ba C.out (.cells #[.int .i64 ka, .int .i64 sa] 25))
  replace qx_0 : ((((w.alloc (.cells #[.bool xn, .int .i64 xv, .string xs] 23)).alloc (.cells #[.bool yn, .int .i64 yv, .string ys] 23)).alloc (.cells #[.int .i64 ka, .int .i64 sa] 25)).alloc (.cells #[.int .i64 kb, .int .i64 sb] 25)).cell? ⟨w.heap.size, 0, none⟩ = some (.bool xn) := past1 _ qx_0
  replace qx_1 : ((((w.alloc (.cells #[.bool xn, .int .i64 xv, .string xs] 23)).alloc (.cells #[.bool yn, .int .i64 yv, .string ys] 23)).alloc (.cells #[.int .i64 ka, .int .i64 sa] 25)).alloc (.cells #[.int .i64 kb, .int .i64 sb] 25)).cell? ⟨w.heap.size, 1, none⟩ = some (.int .i64 xv) := past1 _ qx_1
  replace qx_2 : ((((w.alloc (.cells #[.bool xn, .int .i64 xv, .string xs] 23)).alloc (.cells #[.bool yn, .int .i64 yv, .string ys] 23)).alloc (.cells #[.int .i64 ka, .int .i64 sa] 25)).alloc (.cells #[.int .i64 kb, .int .i64 sb] 25)).cell? ⟨w.heap.size, 2, none⟩ = some (.string xs) := past1 _ qx_2
  replace qy_0 : ((((w.alloc (.cells #[.bool xn, .int .i64 xv, .string xs] 23)).alloc (.cells #[.bool yn, .int .i64 yv, .string ys] 23)).alloc (.cells #[.int .i64 ka, .int .i64 sa] 25)).alloc (.cells #[.int .i64 kb, .int .i64 sb] 25)).cell? ⟨w.heap.size + 1, 0, none⟩ = some (.bool yn) := past1 _ qy_0
  replace qy_1 : ((((w.alloc (.cells #[.bool xn, .int .i64 xv, .string xs] 23)).alloc (.cells #[.bool yn, .int .i64 yv, .string ys] 23)).alloc (.cells #[.int .i64 ka, .int .i64 sa] 25)).alloc (.cells #[.int .i64 kb, .int .i64 sb] 25)).cell? ⟨w.heap.size + 1, 1, none⟩ = some (.int .i64 yv) := past1 _ qy_1
  replace qy_2 : ((((w.alloc (.cells #[.bool xn, .int .i64 xv, .string xs] 23)).alloc (.cells #[.bool yn, .int .i64 yv, .string ys] 23)).alloc (.cells #[.int .i64 ka, .int .i64 sa] 25)).alloc (.cells #[.int .i64 kb, .int .i64 sb] 25)).cell? ⟨w.heap.size + 1, 2, none⟩ = some (.string ys) := past1 _ qy_2
  replace qa_0 : ((((w.alloc (.cells #[.bool xn, .int .i64 xv, .string xs] 23)).alloc (.cells #[.bool yn, .int .i64 yv, .string ys] 23)).alloc (.cells #[.int .i64 ka, .int .i64 sa] 25)).alloc (.cells #[.int .i64 kb, .int .i64 sb] 25)).cell? ⟨w.heap.size + 1 + 1, 0, none⟩ = some (.int .i64 ka) := past1 _ qa_0
  replace qa_1 : ((((w.alloc (.cells #[.bool xn, .int .i64 xv, .string xs] 23)).alloc (.cells #[.bool yn, .int .i64 yv, .string ys] 23)).alloc (.cells #[.int .i64 ka, .int .i64 sa] 25)).alloc (.cells #[.int .i64 kb, .int .i64 sb] 25)).cell? ⟨w.heap.size + 1 + 1, 1, none⟩ = some (.int .i64 sa) := past1 _ qa_1
  have qb_0 : ((((w.alloc (.cells #[.bool xn, .int .i64 xv, .string xs] 23)).alloc (.cells #[.bool yn, .int .i64 yv, .string ys] 23)).alloc (.cells #[.int .i64 ka, .int .i64 sa] 25)).alloc (.cells #[.int .i64 kb, .int .i64 sb] 25)).cell? ⟨w.heap.size + 1 + 1 + 1, 0, none⟩ = some (.int .i64 kb) := World.cell?_alloc_at _ _ _ _ (by simp)
  have qb_1 : ((((w.alloc (.cells #[.bool xn, .int .i64 xv, .string xs] 23)).alloc (.cells #[.bool yn, .int .i64 yv, .string ys] 23)).alloc (.cells #[.int .i64 ka, .int .i64 sa] 25)).alloc (.cells #[.int .i64 kb, .int .i64 sb] 25)).cell? ⟨w.heap.size + 1 + 1 + 1, 1, none⟩ = some (.int .i64 sb) := World.cell?_alloc_at _ _ _ _ (by simp)
  replace C := Lib.hid (ba C.out (.cells #[.int .i64 kb, .int .i64 sb] 25))
  go_enter Tryz.func8, Tryz.ntmps8
  go_wp2_with fail
  refine (rfits_any ka sa false xn xv xs _ _ H1.out).mono ?_
  rintro e w1 ⟨rfl, c⟩
  replace qx_0 : w1.cell? ⟨w.heap.size, 0, none⟩ = some (.bool xn) := cell_later c qx_0
  replace qx_1 : w1.cell? ⟨w.heap.size, 1, none⟩ = some (.int .i64 xv) := cell_later c qx_1
  replace qx_2 : w1.cell? ⟨w.heap.size, 2, none⟩ = some (.string xs) := cell_later c qx_2
  replace qy_0 : w1.cell? ⟨w.heap.size + 1, 0, none⟩ = some (.bool yn) := cell_later c qy_0
  replace qy_1 : w1.cell? ⟨w.heap.size + 1, 1, none⟩ = some (.int .i64 yv) := cell_later c qy_1
  replace qy_2 : w1.cell? ⟨w.heap.size + 1, 2, none⟩ = some (.string ys) := cell_later c qy_2
  replace qa_0 : w1.cell? ⟨w.heap.size + 1 + 1, 0, none⟩ = some (.int .i64 ka) := cell_later c qa_0
  replace qa_1 : w1.cell? ⟨w.heap.size + 1 + 1, 1, none⟩ = some (.int .i64 sa) := cell_later c qa_1
  replace qb_0 : w1.cell? ⟨w.heap.size + 1 + 1 + 1, 0, none⟩ = some (.int .i64 kb) := cell_later c qb_0
  replace qb_1 : w1.cell? ⟨w.heap.size + 1 + 1 + 1, 1, none⟩ = some (.int .i64 sb) := cell_later c qb_1
  have lx : w.heap.size < w1.heap.size := World.block_lt_of_cell? _ _ qx_0
  have ly : w.heap.size + 1 < w1.heap.size := World.block_lt_of_cell? _ _ qy_0
  have la : w.heap.size + 1 + 1 < w1.heap.size := World.block_lt_of_cell? _ _ qa_0
  have lb : w.heap.size + 1 + 1 + 1 < w1.heap.size := World.block_lt_of_cell? _ _ qb_0
  replace C := Lib.hid (bj C.out c)
  clear c
  go_wp2_with fail
  refine (rfits_any kb sb false yn yv ys _ _ H2.out).mono ?_
  rintro e w2 ⟨rfl, c⟩
  replace qx_0 : w2.cell? ⟨w.heap.size, 0, none⟩ = some (.bool xn) := cell_later c qx_0
  replace qx_1 : w2.cell? ⟨w.heap.size, 1, none⟩ = some (.int .i64 xv) := cell_later c qx_1
  replace qx_2 : w2.cell? ⟨w.heap.size, 2, none⟩ = some (.string xs) := cell_later c qx_2
  replace qy_0 : w2.cell? ⟨w.heap.size + 1, 0, none⟩ = some (.bool yn) := cell_later c qy_0
  replace qy_1 : w2.cell? ⟨w.heap.size + 1, 1, none⟩ = some (.int .i64 yv) := cell_later c qy_1
  replace qy_2 : w2.cell? ⟨w.heap.size + 1, 2, none⟩ = some (.string ys) := cell_later c qy_2
  replace qa_0 : w2.cell? ⟨w.heap.size + 1 + 1, 0, none⟩ = some (.int .i64 ka) := cell_later c qa_0
  replace qa_1 : w2.cell? ⟨w.heap.size + 1 + 1, 1, none⟩ = some (.int .i64 sa) := cell_later c qa_1
  replace qb_0 : w2.cell? ⟨w.heap.size + 1 + 1 + 1, 0, none⟩ = some (.int .i64 kb) := cell_later c qb_0
  replace qb_1 : w2.cell? ⟨w.heap.size + 1 + 1 + 1, 1, none⟩ = some (.int .i64 sb) := cell_later c qb_1
  clear lx
  have lx : w.heap.size < w2.heap.size := World.block_lt_of_cell? _ _ qx_0
  clear ly
  have ly : w.heap.size + 1 < w2.heap.size := World.block_lt_of_cell? _ _ qy_0
  clear la
  have la : w.heap.size + 1 + 1 < w2.heap.size := World.block_lt_of_cell? _ _ qa_0
  clear lb
  have lb : w.heap.size + 1 + 1 + 1 < w2.heap.size := World.block_lt_of_cell? _ _ qb_0
  replace C := Lib.hid (bj C.out c)
  clear c
  go_wp2_with fail
  have HZ := Lib.hid (show HeldRC w xn xv xs yn yv ys ka sa kb sb w2.drew from ⟨qx_0, qx_1, qx_2, qy_0, qy_1, qy_2, qa_0, qa_1, qb_0, qb_1, C.out.drew⟩)
  refine wp_region_held_drew (S := fun W => HeldRC w xn xv xs yn yv ys ka sa kb sb W) (by kernel_rfl) HZ.out (fun hHeld => ?_)
  refine take_yes (i := 0) (d := (some 22)) (v := ?_) rfl (by kernel_rfl) (by kernel_rfl) (by kernel_rfl) rfl (fun _ _ _ h => h) (by rfl) (by assumption) ?_ ?_
  rotate_left
  · (intro w hSw; (try dsimp only at hSw); go_simp; try with_reducible rfl)
  try simp only [Act.put, List.setIfInBounds_toArray, List.set_cons_zero, List.set_cons_succ]
  refine take_yes (i := 1) (d := (some 23)) (v := ?_) rfl (by kernel_rfl) (by kernel_rfl) (by kernel_rfl) rfl (fun _ _ _ h => h) (by rfl) (by assumption) ?_ ?_
  rotate_left
  · (intro w hSw; (try dsimp only at hSw); go_simp; try with_reducible rfl)
  try simp only [Act.put, List.setIfInBounds_toArray, List.set_cons_zero, List.set_cons_succ]
  refine take_yes (i := 2) (d := (some 24)) (v := ?_) rfl (by kernel_rfl) (by kernel_rfl) (by kernel_rfl) rfl (fun _ _ _ h => h) (by rfl) (by assumption) ?_ ?_
  rotate_left
  · (intro w hSw; (try dsimp only at hSw); go_simp; try with_reducible rfl)
  try simp only [Act.put, List.setIfInBounds_toArray, List.set_cons_zero, List.set_cons_succ]
  refine take_yes (i := 3) (d := (some 25)) (v := ?_) rfl (by kernel_rfl) (by kernel_rfl) (by kernel_rfl) rfl (fun _ _ _ h => h) (by rfl) (by assumption) ?_ ?_
  rotate_left
  · (intro w hSw; (try dsimp only at hSw); go_simp; try with_reducible rfl)
  try simp only [Act.put, List.setIfInBounds_toArray, List.set_cons_zero, List.set_cons_succ]
  refine take_yes (i := 4) (d := (some 26)) (v := ?_) rfl (by kernel_rfl) (by kernel_rfl) (by kernel_rfl) rfl (fun _ _ _ h => h) (by rfl) (by assumption) ?_ ?_
  rotate_left
  · (intro w hSw; (try dsimp only at hSw); go_simp; try with_reducible rfl)
  try simp only [Act.put, List.setIfInBounds_toArray, List.set_cons_zero, List.set_cons_succ]
  refine take_yes (i := 5) (d := (some 27)) (v := ?_) rfl (by kernel_rfl) (by kernel_rfl) (by kernel_rfl) rfl (fun _ _ _ h => h) (by rfl) (by assumption) ?_ ?_
  rotate_left
  · (intro w hSw; (try dsimp only at hSw); go_simp; try with_reducible rfl)
  try simp only [Act.put, List.setIfInBounds_toArray, List.set_cons_zero, List.set_cons_succ]
  refine take_yes (i := 6) (d := (some 28)) (v := ?_) rfl (by kernel_rfl) (by kernel_rfl) (by kernel_rfl) rfl (fun _ _ _ h => h) (by rfl) (by assumption) ?_ ?_
  rotate_left
  · (intro w hSw; (try dsimp only at hSw); go_simp; try with_reducible rfl)
  try simp only [Act.put, List.setIfInBounds_toArray, List.set_cons_zero, List.set_cons_succ]
  refine take_yes (i := 7) (d := (some 29)) (v := ?_) rfl (by kernel_rfl) (by kernel_rfl) (by kernel_rfl) rfl (fun _ _ _ h => h) (by rfl) (by assumption) ?_ ?_
  rotate_left
  · (intro w hSw; (try dsimp only at hSw); go_simp; try with_reducible rfl)
  try simp only [Act.put, List.setIfInBounds_toArray, List.set_cons_zero, List.set_cons_succ]
  refine take_yes (i := 9) (d := (some 31)) (v := ?_) rfl (by kernel_rfl) (by kernel_rfl) (by kernel_rfl) rfl (fun _ _ _ h => h) (by rfl) (by assumption) ?_ ?_
  rotate_left
  · (intro w hSw; (try dsimp only at hSw); go_simp; try with_reducible rfl)
  try simp only [Act.put, List.setIfInBounds_toArray, List.set_cons_zero, List.set_cons_succ]
  refine wpAnyH_ready (rs := [8]) (by kernel_rfl) (by simp) ?_
  refine AllReadyH.cons (o := _) rfl (fun K hK => ?_) AllReadyH.nil
  go_simp
  go_at_call 35
  refine (rnum_r _ _ _ K1.out _).mono ?_
  rintro e W2 ⟨rfl, c2⟩
  go_wp2_with fail
  refine hK.out _ _ (heldRC_later c2 (by assumption)) (fun hHeld => ?_)
  clear c2
  clear hK K
  try simp only [Act.put, List.setIfInBounds_toArray, List.set_cons_zero, List.set_cons_succ]
  refine wpAnyH_ready (rs := [10]) (by kernel_rfl) (by simp) ?_
  refine AllReadyH.cons (o := _) rfl (fun K hK => ?_) AllReadyH.nil
  go_simp
  go_at_call 35
  refine (rnum_r _ _ _ K2.out _).mono ?_
  rintro e W2 ⟨rfl, c2⟩
  go_wp2_with fail
  refine hK.out _ _ (heldRC_later c2 (by assumption)) (fun hHeld => ?_)
  clear c2
  clear hK K
  try simp only [Act.put, List.setIfInBounds_toArray, List.set_cons_zero, List.set_cons_succ]
  refine take_yes (i := 11) (d := (some 33)) (v := ?_) rfl (by kernel_rfl) (by kernel_rfl) (by kernel_rfl) rfl (fun _ _ _ h => h) (by rfl) (by assumption) ?_ ?_
  rotate_left
  · (intro w hSw; (try dsimp only at hSw); go_simp; try with_reducible rfl)
  try simp only [Act.put, List.setIfInBounds_toArray, List.set_cons_zero, List.set_cons_succ]
  refine take_yes (i := 12) (d := (some 34)) (v := ?_) rfl (by kernel_rfl) (by kernel_rfl) (by kernel_rfl) rfl (fun _ _ _ h => h) (by rfl) (by assumption) ?_ ?_
  rotate_left
  · (intro w hSw; (try dsimp only at hSw); go_simp; try with_reducible rfl)
  try simp only [Act.put, List.setIfInBounds_toArray, List.set_cons_zero, List.set_cons_succ]
  refine take_yes (i := 13) (d := (some 35)) (v := ?_) rfl (by kernel_rfl) (by kernel_rfl) (by kernel_rfl) rfl (fun _ _ _ h => h) (by rfl) (by assumption) ?_ ?_
  rotate_left
  · (intro w hSw; (try dsimp only at hSw); go_simp; try with_reducible rfl)
  try simp only [Act.put, List.setIfInBounds_toArray, List.set_cons_zero, List.set_cons_succ]
  refine take_yes (i := 14) (d := (some 36)) (v := ?_) rfl (by kernel_rfl) (by kernel_rfl) (by kernel_rfl) rfl (fun _ _ _ h => h) (by rfl) (by assumption) ?_ ?_
  rotate_left
  · (intro w hSw; (try dsimp only at hSw); go_simp; try with_reducible rfl)
  try simp only [Act.put, List.setIfInBounds_toArray, List.set_cons_zero, List.set_cons_succ]
  refine wpAnyH_ready (rs := [15]) (by kernel_rfl) (by simp) ?_
  refine AllReadyH.cons (o := _) rfl (fun K hK => ?_) AllReadyH.nil
  go_simp
  go_at_call 35
  refine (rnum_r _ _ _ K1.out _).mono ?_
  rintro e W2 ⟨rfl, c2⟩
  go_wp2_with fail
  refine hK.out _ _ (heldRC_later c2 (by assumption)) (fun hHeld => ?_)
  clear c2
  clear hK K
  try simp only [Act.put, List.setIfInBounds_toArray, List.set_cons_zero, List.set_cons_succ]
  refine take_yes (i := 16) (d := (some 38)) (v := ?_) rfl (by kernel_rfl) (by kernel_rfl) (by kernel_rfl) rfl (fun _ _ _ h => h) (by rfl) (by assumption) ?_ ?_
  rotate_left
  · (intro w hSw; (try dsimp only at hSw); go_simp; try with_reducible rfl)
  try simp only [Act.put, List.setIfInBounds_toArray, List.set_cons_zero, List.set_cons_succ]
  refine take_yes (i := 17) (d := (some 39)) (v := ?_) rfl (by kernel_rfl) (by kernel_rfl) (by kernel_rfl) rfl (fun _ _ _ h => h) (by rfl) (by assumption) ?_ ?_
  rotate_left
  · (intro w hSw; (try dsimp only at hSw); go_simp; try with_reducible rfl)
  try simp only [Act.put, List.setIfInBounds_toArray, List.set_cons_zero, List.set_cons_succ]
  refine take_yes (i := 18) (d := (some 40)) (v := ?_) rfl (by kernel_rfl) (by kernel_rfl) (by kernel_rfl) rfl (fun _ _ _ h => h) (by rfl) (by assumption) ?_ ?_
  rotate_left
  · (intro w hSw; (try dsimp only at hSw); go_simp; try with_reducible rfl)
  try simp only [Act.put, List.setIfInBounds_toArray, List.set_cons_zero, List.set_cons_succ]
  refine take_yes (i := 19) (d := (some 41)) (v := ?_) rfl (by kernel_rfl) (by kernel_rfl) (by kernel_rfl) rfl (fun _ _ _ h => h) (by rfl) (by assumption) ?_ ?_
  rotate_left
  · (intro w hSw; (try dsimp only at hSw); go_simp; try with_reducible rfl)
  try simp only [Act.put, List.setIfInBounds_toArray, List.set_cons_zero, List.set_cons_succ]
  refine take_yes (i := 20) (d := (some 42)) (v := ?_) rfl (by kernel_rfl) (by kernel_rfl) (by kernel_rfl) rfl (fun _ _ _ h => h) (by rfl) (by assumption) ?_ ?_
  rotate_left
  · (intro w hSw; (try dsimp only at hSw); go_simp; try with_reducible rfl)
  try simp only [Act.put, List.setIfInBounds_toArray, List.set_cons_zero, List.set_cons_succ]
  refine take_yes (i := 21) (d := (some 43)) (v := ?_) rfl (by kernel_rfl) (by kernel_rfl) (by kernel_rfl) rfl (fun _ _ _ h => h) (by rfl) (by assumption) ?_ ?_
  rotate_left
  · (intro w hSw; (try dsimp only at hSw); go_simp; try with_reducible rfl)
  try simp only [Act.put, List.setIfInBounds_toArray, List.set_cons_zero, List.set_cons_succ]
  refine take_yes (i := 22) (d := (some 44)) (v := ?_) rfl (by kernel_rfl) (by kernel_rfl) (by kernel_rfl) rfl (fun _ _ _ h => h) (by rfl) (by assumption) ?_ ?_
  rotate_left
  · (intro w hSw; (try dsimp only at hSw); go_simp; try with_reducible rfl)
  try simp only [Act.put, List.setIfInBounds_toArray, List.set_cons_zero, List.set_cons_succ]
  refine take_yes (i := 23) (d := (some 45)) (v := ?_) rfl (by kernel_rfl) (by kernel_rfl) (by kernel_rfl) rfl (fun _ _ _ h => h) (by rfl) (by assumption) ?_ ?_
  rotate_left
  · (intro w hSw; (try dsimp only at hSw); go_simp; try with_reducible rfl)
  try simp only [Act.put, List.setIfInBounds_toArray, List.set_cons_zero, List.set_cons_succ]
  refine take_yes (i := 24) (d := (some 46)) (v := ?_) rfl (by kernel_rfl) (by kernel_rfl) (by kernel_rfl) rfl (fun _ _ _ h => h) (by rfl) (by assumption) ?_ ?_
  rotate_left
  · (intro w hSw; (try dsimp only at hSw); go_simp; try with_reducible rfl)
  try simp only [Act.put, List.setIfInBounds_toArray, List.set_cons_zero, List.set_cons_succ]
  refine wpAnyH_done (by kernel_rfl) ?_ _
  all_goals
    go_wp2_with fail
    go_ret2
    exact ⟨by simp, (‹HeldRC w xn xv xs yn yv ys ka sa kb sb _›).2.2.2.2.2.2.2.2.2.2⟩
set_option maxRecDepth 100000 in
set_option maxHeartbeats 4000000 in
theorem rcmp_b (xn yn : Bool) (xv yv ka sa kb sb : Int) (xs ys : ByteArray) (c : Int) (hk3 : (ka == 3) = true) (hkk : (ka != kb) = false) (hkk0 : (ka == kb) = true) (hc : (if Op.bytesLess xs.toList ys.toList then -1 else if (!Op.bytesLess xs.toList ys.toList && !xs.toList == ys.toList) then 1 else 0 : Int) = c) (h1 : fitsB ⟨ka, sa⟩ false ⟨xn, xv, xs⟩ = true) (h2 : fitsB ⟨kb, sb⟩ false ⟨yn, yv, ys⟩ = true) (k1 : RNum ka false) (k2 : RNum kb false) (w : World) : Calls Tryz.prog 8 #[.agg #[.bool xn, .int .i64 xv, .string xs], .agg #[.bool yn, .int .i64 yv, .string ys], .agg #[.int .i64 ka, .int .i64 sa], .agg #[.int .i64 kb, .int .i64 sb]] w fun e w' => e = .returned (.tuple #[.int .i64 c, .bool true]) ∧ Below w.heap.size w w' := by
  have H1 := Lib.hid h1
  have H2 := Lib.hid h2
  have K1 := Lib.hid k1
  have K2 := Lib.hid k2
  have HC := Lib.hid hc
  clear h1 h2 k1 k2 hc
  have C := Lib.hid (below0 w)
  have qx_0 : (w.alloc (.cells #[.bool xn, .int .i64 xv, .string xs] 23)).cell? ⟨w.heap.size, 0, none⟩ = some (.bool xn) := World.cell?_alloc_at _ _ _ _ (rfl)
  have qx_1 : (w.alloc (.cells #[.bool xn, .int .i64 xv, .string xs] 23)).cell? ⟨w.heap.size, 1, none⟩ = some (.int .i64 xv) := World.cell?_alloc_at _ _ _ _ (rfl)
  have qx_2 : (w.alloc (.cells #[.bool xn, .int .i64 xv, .string xs] 23)).cell? ⟨w.heap.size, 2, none⟩ = some (.string xs) := World.cell?_alloc_at _ _ _ _ (rfl)
  replace C := Lib.hid (ba C.out (.cells #[.bool xn, .int .i64 xv, .string xs] 23))
  replace qx_0 : ((w.alloc (.cells #[.bool xn, .int .i64 xv, .string xs] 23)).alloc (.cells #[.bool yn, .int .i64 yv, .string ys] 23)).cell? ⟨w.heap.size, 0, none⟩ = some (.bool xn) := past1 _ qx_0
  replace qx_1 : ((w.alloc (.cells #[.bool xn, .int .i64 xv, .string xs] 23)).alloc (.cells #[.bool yn, .int .i64 yv, .string ys] 23)).cell? ⟨w.heap.size, 1, none⟩ = some (.int .i64 xv) := past1 _ qx_1
  replace qx_2 : ((w.alloc (.cells #[.bool xn, .int .i64 xv, .string xs] 23)).alloc (.cells #[.bool yn, .int .i64 yv, .string ys] 23)).cell? ⟨w.heap.size, 2, none⟩ = some (.string xs) := past1 _ qx_2
  have qy_0 : ((w.alloc (.cells #[.bool xn, .int .i64 xv, .string xs] 23)).alloc (.cells #[.bool yn, .int .i64 yv, .string ys] 23)).cell? ⟨w.heap.size + 1, 0, none⟩ = some (.bool yn) := World.cell?_alloc_at _ _ _ _ (by simp)
  have qy_1 : ((w.alloc (.cells #[.bool xn, .int .i64 xv, .string xs] 23)).alloc (.cells #[.bool yn, .int .i64 yv, .string ys] 23)).cell? ⟨w.heap.size + 1, 1, none⟩ = some (.int .i64 yv) := World.cell?_alloc_at _ _ _ _ (by simp)
  have qy_2 : ((w.alloc (.cells #[.bool xn, .int .i64 xv, .string xs] 23)).alloc (.cells #[.bool yn, .int .i64 yv, .string ys] 23)).cell? ⟨w.heap.size + 1, 2, none⟩ = some (.string ys) := World.cell?_alloc_at _ _ _ _ (by simp)
  replace C := Lib.hid (ba C.out (.cells #[.bool yn, .int .i64 yv, .string ys] 23))
  replace qx_0 : (((w.alloc (.cells #[.bool xn, .int .i64 xv, .string xs] 23)).alloc (.cells #[.bool yn, .int .i64 yv, .string ys] 23)).alloc (.cells #[.int .i64 ka, .int .i64 sa] 25)).cell? ⟨w.heap.size, 0, none⟩ = some (.bool xn) := past1 _ qx_0
  replace qx_1 : (((w.alloc (.cells #[.bool xn, .int .i64 xv, .string xs] 23)).alloc (.cells #[.bool yn, .int .i64 yv, .string ys] 23)).alloc (.cells #[.int .i64 ka, .int .i64 sa] 25)).cell? ⟨w.heap.size, 1, none⟩ = some (.int .i64 xv) := past1 _ qx_1
  replace qx_2 : (((w.alloc (.cells #[.bool xn, .int .i64 xv, .string xs] 23)).alloc (.cells #[.bool yn, .int .i64 yv, .string ys] 23)).alloc (.cells #[.int .i64 ka, .int .i64 sa] 25)).cell? ⟨w.heap.size, 2, none⟩ = some (.string xs) := past1 _ qx_2
  replace qy_0 : (((w.alloc (.cells #[.bool xn, .int .i64 xv, .string xs] 23)).alloc (.cells #[.bool yn, .int .i64 yv, .string ys] 23)).alloc (.cells #[.int .i64 ka, .int .i64 sa] 25)).cell? ⟨w.heap.size + 1, 0, none⟩ = some (.bool yn) := past1 _ qy_0
  replace qy_1 : (((w.alloc (.cells #[.bool xn, .int .i64 xv, .string xs] 23)).alloc (.cells #[.bool yn, .int .i64 yv, .string ys] 23)).alloc (.cells #[.int .i64 ka, .int .i64 sa] 25)).cell? ⟨w.heap.size + 1, 1, none⟩ = some (.int .i64 yv) := past1 _ qy_1
  replace qy_2 : (((w.alloc (.cells #[.bool xn, .int .i64 xv, .string xs] 23)).alloc (.cells #[.bool yn, .int .i64 yv, .string ys] 23)).alloc (.cells #[.int .i64 ka, .int .i64 sa] 25)).cell? ⟨w.heap.size + 1, 2, none⟩ = some (.string ys) := past1 _ qy_2
  have qa_0 : (((w.alloc (.cells #[.bool xn, .int .i64 xv, .string xs] 23)).alloc (.cells #[.bool yn, .int .i64 yv, .string ys] 23)).alloc (.cells #[.int .i64 ka, .int .i64 sa] 25)).cell? ⟨w.heap.size + 1 + 1, 0, none⟩ = some (.int .i64 ka) := World.cell?_alloc_at _ _ _ _ (by simp)
  have qa_1 : (((w.alloc (.cells #[.bool xn, .int .i64 xv, .string xs] 23)).alloc (.cells #[.bool yn, .int .i64 yv, .string ys] 23)).alloc (.cells #[.int .i64 ka, .int .i64 sa] 25)).cell? ⟨w.heap.size + 1 + 1, 1, none⟩ = some (.int .i64 sa) := World.cell?_alloc_at _ _ _ _ (by simp)
  replace C := Lib.hid (ba C.out (.cells #[.int .i64 ka, .int .i64 sa] 25))
  replace qx_0 : ((((w.alloc (.cells #[.bool xn, .int .i64 xv, .string xs] 23)).alloc (.cells #[.bool yn, .int .i64 yv, .string ys] 23)).alloc (.cells #[.int .i64 ka, .int .i64 sa] 25)).alloc (.cells #[.int .i64 kb, .int .i64 sb] 25)).cell? ⟨w.heap.size, 0, none⟩ = some (.bool xn) := past1 _ qx_0
  replace qx_1 : ((((w.alloc (.cells #[.bool xn, .int .i64 xv, .string xs] 23)).alloc (.cells #[.bool yn, .int .i64 yv, .string ys] 23)).alloc (.cells #[.int .i64 ka, .int .i64 sa] 25)).alloc (.cells #[.int .i64 kb, .int .i64 sb] 25)).cell? ⟨w.heap.size, 1, none⟩ = some (.int .i64 xv) := past1 _ qx_1
  replace qx_2 : ((((w.alloc (.cells #[.bool xn, .int .i64 xv, .string xs] 23)).alloc (.cells #[.bool yn, .int .i64 yv, .string ys] 23)).alloc (.cells #[.int .i64 ka, .int .i64 sa] 25)).alloc (.cells #[.int .i64 kb, .int .i64 sb] 25)).cell? ⟨w.heap.size, 2, none⟩ = some (.string xs) := past1 _ qx_2
  replace qy_0 : ((((w.alloc (.cells #[.bool xn, .int .i64 xv, .string xs] 23)).alloc (.cells #[.bool yn, .int .i64 yv, .string ys] 23)).alloc (.cells #[.int .i64 ka, .int .i64 sa] 25)).alloc (.cells #[.int .i64 kb, .int .i64 sb] 25)).cell? ⟨w.heap.size + 1, 0, none⟩ = some (.bool yn) := past1 _ qy_0
  replace qy_1 : ((((w.alloc (.cells #[.bool xn, .int .i64 xv, .string xs] 23)).alloc (.cells #[.bool yn, .int .i64 yv, .string ys] 23)).alloc (.cells #[.int .i64 ka, .int .i64 sa] 25)).alloc (.cells #[.int .i64 kb, .int .i64 sb] 25)).cell? ⟨w.heap.size + 1, 1, none⟩ = some (.int .i64 yv) := past1 _ qy_1
  replace qy_2 : ((((w.alloc (.cells #[.bool xn, .int .i64 xv, .string xs] 23)).alloc (.cells #[.bool yn, .int .i64 yv, .string ys] 23)).alloc (.cells #[.int .i64 ka, .int .i64 sa] 25)).alloc (.cells #[.int .i64 kb, .int .i64 sb] 25)).cell? ⟨w.heap.size + 1, 2, none⟩ = some (.string ys) := past1 _ qy_2
  replace qa_0 : ((((w.alloc (.cells #[.bool xn, .int .i64 xv, .string xs] 23)).alloc (.cells #[.bool yn, .int .i64 yv, .string ys] 23)).alloc (.cells #[.int .i64 ka, .int .i64 sa] 25)).alloc (.cells #[.int .i64 kb, .int .i64 sb] 25)).cell? ⟨w.heap.size + 1 + 1, 0, none⟩ = some (.int .i64 ka) := past1 _ qa_0
  replace qa_1 : ((((w.alloc (.cells #[.bool xn, .int .i64 xv, .string xs] 23)).alloc (.cells #[.bool yn, .int .i64 yv, .string ys] 23)).alloc (.cells #[.int .i64 ka, .int .i64 sa] 25)).alloc (.cells #[.int .i64 kb, .int .i64 sb] 25)).cell? ⟨w.heap.size + 1 + 1, 1, none⟩ = some (.int .i64 sa) := past1 _ qa_1
  have qb_0 : ((((w.alloc (.cells #[.bool xn, .int .i64 xv, .string xs] 23)).alloc (.cells #[.bool yn, .int .i64 yv, .string ys] 23)).alloc (.cells #[.int .i64 ka, .int .i64 sa] 25)).alloc (.cells #[.int .i64 kb, .int .i64 sb] 25)).cell? ⟨w.heap.size + 1 + 1 + 1, 0, none⟩ = some (.int .i64 kb) := World.cell?_alloc_at _ _ _ _ (by simp)
  have qb_1 : ((((w.alloc (.cells #[.bool xn, .int .i64 xv, .string xs] 23)).alloc (.cells #[.bool yn, .int .i64 yv, .string ys] 23)).alloc (.cells #[.int .i64 ka, .int .i64 sa] 25)).alloc (.cells #[.int .i64 kb, .int .i64 sb] 25)).cell? ⟨w.heap.size + 1 + 1 + 1, 1, none⟩ = some (.int .i64 sb) := World.cell?_alloc_at _ _ _ _ (by simp)
  replace C := Lib.hid (ba C.out (.cells #[.int .i64 kb, .int .i64 sb] 25))
  go_enter Tryz.func8, Tryz.ntmps8
  go_wp2_with fail
  refine (rfits_any ka sa false xn xv xs _ _ H1.out).mono ?_
  rintro e w1 ⟨rfl, c⟩
  replace qx_0 : w1.cell? ⟨w.heap.size, 0, none⟩ = some (.bool xn) := cell_later c qx_0
  replace qx_1 : w1.cell? ⟨w.heap.size, 1, none⟩ = some (.int .i64 xv) := cell_later c qx_1
  replace qx_2 : w1.cell? ⟨w.heap.size, 2, none⟩ = some (.string xs) := cell_later c qx_2
  replace qy_0 : w1.cell? ⟨w.heap.size + 1, 0, none⟩ = some (.bool yn) := cell_later c qy_0
  replace qy_1 : w1.cell? ⟨w.heap.size + 1, 1, none⟩ = some (.int .i64 yv) := cell_later c qy_1
  replace qy_2 : w1.cell? ⟨w.heap.size + 1, 2, none⟩ = some (.string ys) := cell_later c qy_2
  replace qa_0 : w1.cell? ⟨w.heap.size + 1 + 1, 0, none⟩ = some (.int .i64 ka) := cell_later c qa_0
  replace qa_1 : w1.cell? ⟨w.heap.size + 1 + 1, 1, none⟩ = some (.int .i64 sa) := cell_later c qa_1
  replace qb_0 : w1.cell? ⟨w.heap.size + 1 + 1 + 1, 0, none⟩ = some (.int .i64 kb) := cell_later c qb_0
  replace qb_1 : w1.cell? ⟨w.heap.size + 1 + 1 + 1, 1, none⟩ = some (.int .i64 sb) := cell_later c qb_1
  have lx : w.heap.size < w1.heap.size := World.block_lt_of_cell? _ _ qx_0
  have ly : w.heap.size + 1 < w1.heap.size := World.block_lt_of_cell? _ _ qy_0
  have la : w.heap.size + 1 + 1 < w1.heap.size := World.block_lt_of_cell? _ _ qa_0
  have lb : w.heap.size + 1 + 1 + 1 < w1.heap.size := World.block_lt_of_cell? _ _ qb_0
  replace C := Lib.hid (bj C.out c)
  clear c
  go_wp2_with fail
  refine (rfits_any kb sb false yn yv ys _ _ H2.out).mono ?_
  rintro e w2 ⟨rfl, c⟩
  replace qx_0 : w2.cell? ⟨w.heap.size, 0, none⟩ = some (.bool xn) := cell_later c qx_0
  replace qx_1 : w2.cell? ⟨w.heap.size, 1, none⟩ = some (.int .i64 xv) := cell_later c qx_1
  replace qx_2 : w2.cell? ⟨w.heap.size, 2, none⟩ = some (.string xs) := cell_later c qx_2
  replace qy_0 : w2.cell? ⟨w.heap.size + 1, 0, none⟩ = some (.bool yn) := cell_later c qy_0
  replace qy_1 : w2.cell? ⟨w.heap.size + 1, 1, none⟩ = some (.int .i64 yv) := cell_later c qy_1
  replace qy_2 : w2.cell? ⟨w.heap.size + 1, 2, none⟩ = some (.string ys) := cell_later c qy_2
  replace qa_0 : w2.cell? ⟨w.heap.size + 1 + 1, 0, none⟩ = some (.int .i64 ka) := cell_later c qa_0
  replace qa_1 : w2.cell? ⟨w.heap.size + 1 + 1, 1, none⟩ = some (.int .i64 sa) := cell_later c qa_1
  replace qb_0 : w2.cell? ⟨w.heap.size + 1 + 1 + 1, 0, none⟩ = some (.int .i64 kb) := cell_later c qb_0
  replace qb_1 : w2.cell? ⟨w.heap.size + 1 + 1 + 1, 1, none⟩ = some (.int .i64 sb) := cell_later c qb_1
  clear lx
  have lx : w.heap.size < w2.heap.size := World.block_lt_of_cell? _ _ qx_0
  clear ly
  have ly : w.heap.size + 1 < w2.heap.size := World.block_lt_of_cell? _ _ qy_0
  clear la
  have la : w.heap.size + 1 + 1 < w2.heap.size := World.block_lt_of_cell? _ _ qa_0
  clear lb
  have lb : w.heap.size + 1 + 1 + 1 < w2.heap.size := World.block_lt_of_cell? _ _ qb_0
  replace C := Lib.hid (bj C.out c)
  clear c
  go_wp2_with fail
  have HZ := Lib.hid (show HeldRC w xn xv xs yn yv ys ka sa kb sb w2.drew from ⟨qx_0, qx_1, qx_2, qy_0, qy_1, qy_2, qa_0, qa_1, qb_0, qb_1, C.out.drew⟩)
  refine wp_region_held_drew (S := fun W => HeldRC w xn xv xs yn yv ys ka sa kb sb W) (by kernel_rfl) HZ.out (fun hHeld => ?_)
  refine take_yes (i := 0) (d := (some 22)) (v := ?_) rfl (by kernel_rfl) (by kernel_rfl) (by kernel_rfl) rfl (fun _ _ _ h => h) (by rfl) (by assumption) ?_ ?_
  rotate_left
  · (intro w hSw; (try dsimp only at hSw); go_simp; try with_reducible rfl)
  try simp only [Act.put, List.setIfInBounds_toArray, List.set_cons_zero, List.set_cons_succ]
  refine take_yes (i := 1) (d := (some 23)) (v := ?_) rfl (by kernel_rfl) (by kernel_rfl) (by kernel_rfl) rfl (fun _ _ _ h => h) (by rfl) (by assumption) ?_ ?_
  rotate_left
  · (intro w hSw; (try dsimp only at hSw); go_simp; try with_reducible rfl)
  try simp only [Act.put, List.setIfInBounds_toArray, List.set_cons_zero, List.set_cons_succ]
  refine take_yes (i := 2) (d := (some 24)) (v := ?_) rfl (by kernel_rfl) (by kernel_rfl) (by kernel_rfl) rfl (fun _ _ _ h => h) (by rfl) (by assumption) ?_ ?_
  rotate_left
  · (intro w hSw; (try dsimp only at hSw); go_simp; try with_reducible rfl)
  try simp only [Act.put, List.setIfInBounds_toArray, List.set_cons_zero, List.set_cons_succ]
  refine take_yes (i := 3) (d := (some 25)) (v := ?_) rfl (by kernel_rfl) (by kernel_rfl) (by kernel_rfl) rfl (fun _ _ _ h => h) (by rfl) (by assumption) ?_ ?_
  rotate_left
  · (intro w hSw; (try dsimp only at hSw); go_simp; try with_reducible rfl)
  try simp only [Act.put, List.setIfInBounds_toArray, List.set_cons_zero, List.set_cons_succ]
  refine take_yes (i := 4) (d := (some 26)) (v := ?_) rfl (by kernel_rfl) (by kernel_rfl) (by kernel_rfl) rfl (fun _ _ _ h => h) (by rfl) (by assumption) ?_ ?_
  rotate_left
  · (intro w hSw; (try dsimp only at hSw); go_simp; try with_reducible rfl)
  try simp only [Act.put, List.setIfInBounds_toArray, List.set_cons_zero, List.set_cons_succ]
  refine take_yes (i := 5) (d := (some 27)) (v := ?_) rfl (by kernel_rfl) (by kernel_rfl) (by kernel_rfl) rfl (fun _ _ _ h => h) (by rfl) (by assumption) ?_ ?_
  rotate_left
  · (intro w hSw; (try dsimp only at hSw); go_simp; try with_reducible rfl)
  try simp only [Act.put, List.setIfInBounds_toArray, List.set_cons_zero, List.set_cons_succ]
  refine take_yes (i := 6) (d := (some 28)) (v := ?_) rfl (by kernel_rfl) (by kernel_rfl) (by kernel_rfl) rfl (fun _ _ _ h => h) (by rfl) (by assumption) ?_ ?_
  rotate_left
  · (intro w hSw; (try dsimp only at hSw); go_simp; try with_reducible rfl)
  try simp only [Act.put, List.setIfInBounds_toArray, List.set_cons_zero, List.set_cons_succ]
  refine take_yes (i := 7) (d := (some 29)) (v := ?_) rfl (by kernel_rfl) (by kernel_rfl) (by kernel_rfl) rfl (fun _ _ _ h => h) (by rfl) (by assumption) ?_ ?_
  rotate_left
  · (intro w hSw; (try dsimp only at hSw); go_simp; try with_reducible rfl)
  try simp only [Act.put, List.setIfInBounds_toArray, List.set_cons_zero, List.set_cons_succ]
  refine take_yes (i := 9) (d := (some 31)) (v := ?_) rfl (by kernel_rfl) (by kernel_rfl) (by kernel_rfl) rfl (fun _ _ _ h => h) (by rfl) (by assumption) ?_ ?_
  rotate_left
  · (intro w hSw; (try dsimp only at hSw); go_simp; try with_reducible rfl)
  try simp only [Act.put, List.setIfInBounds_toArray, List.set_cons_zero, List.set_cons_succ]
  refine wpAnyH_ready (rs := [8]) (by kernel_rfl) (by simp) ?_
  refine AllReadyH.cons (o := _) rfl (fun K hK => ?_) AllReadyH.nil
  go_simp
  go_at_call 35
  refine (rnum_r _ _ _ K1.out _).mono ?_
  rintro e W2 ⟨rfl, c2⟩
  go_wp2_with fail
  refine hK.out _ _ (heldRC_later c2 (by assumption)) (fun hHeld => ?_)
  clear c2
  clear hK K
  try simp only [Act.put, List.setIfInBounds_toArray, List.set_cons_zero, List.set_cons_succ]
  refine wpAnyH_ready (rs := [10]) (by kernel_rfl) (by simp) ?_
  refine AllReadyH.cons (o := _) rfl (fun K hK => ?_) AllReadyH.nil
  go_simp
  go_at_call 35
  refine (rnum_r _ _ _ K2.out _).mono ?_
  rintro e W2 ⟨rfl, c2⟩
  go_wp2_with fail
  refine hK.out _ _ (heldRC_later c2 (by assumption)) (fun hHeld => ?_)
  clear c2
  clear hK K
  try simp only [Act.put, List.setIfInBounds_toArray, List.set_cons_zero, List.set_cons_succ]
  refine take_yes (i := 11) (d := (some 33)) (v := ?_) rfl (by kernel_rfl) (by kernel_rfl) (by kernel_rfl) rfl (fun _ _ _ h => h) (by rfl) (by assumption) ?_ ?_
  rotate_left
  · (intro w hSw; (try dsimp only at hSw); go_simp; try with_reducible rfl)
  try simp only [Act.put, List.setIfInBounds_toArray, List.set_cons_zero, List.set_cons_succ]
  refine take_yes (i := 12) (d := (some 34)) (v := ?_) rfl (by kernel_rfl) (by kernel_rfl) (by kernel_rfl) rfl (fun _ _ _ h => h) (by rfl) (by assumption) ?_ ?_
  rotate_left
  · (intro w hSw; (try dsimp only at hSw); go_simp; try with_reducible rfl)
  try simp only [Act.put, List.setIfInBounds_toArray, List.set_cons_zero, List.set_cons_succ]
  refine take_yes (i := 13) (d := (some 35)) (v := ?_) rfl (by kernel_rfl) (by kernel_rfl) (by kernel_rfl) rfl (fun _ _ _ h => h) (by rfl) (by assumption) ?_ ?_
  rotate_left
  · (intro w hSw; (try dsimp only at hSw); go_simp; try with_reducible rfl)
  try simp only [Act.put, List.setIfInBounds_toArray, List.set_cons_zero, List.set_cons_succ]
  refine take_yes (i := 14) (d := (some 36)) (v := ?_) rfl (by kernel_rfl) (by kernel_rfl) (by kernel_rfl) rfl (fun _ _ _ h => h) (by rfl) (by assumption) ?_ ?_
  rotate_left
  · (intro w hSw; (try dsimp only at hSw); go_simp; try with_reducible rfl)
  try simp only [Act.put, List.setIfInBounds_toArray, List.set_cons_zero, List.set_cons_succ]
  refine wpAnyH_ready (rs := [15]) (by kernel_rfl) (by simp) ?_
  refine AllReadyH.cons (o := _) rfl (fun K hK => ?_) AllReadyH.nil
  go_simp
  go_at_call 35
  refine (rnum_r _ _ _ K1.out _).mono ?_
  rintro e W2 ⟨rfl, c2⟩
  go_wp2_with fail
  refine hK.out _ _ (heldRC_later c2 (by assumption)) (fun hHeld => ?_)
  clear c2
  clear hK K
  try simp only [Act.put, List.setIfInBounds_toArray, List.set_cons_zero, List.set_cons_succ]
  refine take_yes (i := 16) (d := (some 38)) (v := ?_) rfl (by kernel_rfl) (by kernel_rfl) (by kernel_rfl) rfl (fun _ _ _ h => h) (by rfl) (by assumption) ?_ ?_
  rotate_left
  · (intro w hSw; (try dsimp only at hSw); go_simp; try with_reducible rfl)
  try simp only [Act.put, List.setIfInBounds_toArray, List.set_cons_zero, List.set_cons_succ]
  refine take_yes (i := 17) (d := (some 39)) (v := ?_) rfl (by kernel_rfl) (by kernel_rfl) (by kernel_rfl) rfl (fun _ _ _ h => h) (by rfl) (by assumption) ?_ ?_
  rotate_left
  · (intro w hSw; (try dsimp only at hSw); go_simp; try with_reducible rfl)
  try simp only [Act.put, List.setIfInBounds_toArray, List.set_cons_zero, List.set_cons_succ]
  refine take_yes (i := 18) (d := (some 40)) (v := ?_) rfl (by kernel_rfl) (by kernel_rfl) (by kernel_rfl) rfl (fun _ _ _ h => h) (by rfl) (by assumption) ?_ ?_
  rotate_left
  · (intro w hSw; (try dsimp only at hSw); go_simp; try with_reducible rfl)
  try simp only [Act.put, List.setIfInBounds_toArray, List.set_cons_zero, List.set_cons_succ]
  refine take_yes (i := 19) (d := (some 41)) (v := ?_) rfl (by kernel_rfl) (by kernel_rfl) (by kernel_rfl) rfl (fun _ _ _ h => h) (by rfl) (by assumption) ?_ ?_
  rotate_left
  · (intro w hSw; (try dsimp only at hSw); go_simp; try with_reducible rfl)
  try simp only [Act.put, List.setIfInBounds_toArray, List.set_cons_zero, List.set_cons_succ]
  refine take_yes (i := 20) (d := (some 42)) (v := ?_) rfl (by kernel_rfl) (by kernel_rfl) (by kernel_rfl) rfl (fun _ _ _ h => h) (by rfl) (by assumption) ?_ ?_
  rotate_left
  · (intro w hSw; (try dsimp only at hSw); go_simp; try with_reducible rfl)
  try simp only [Act.put, List.setIfInBounds_toArray, List.set_cons_zero, List.set_cons_succ]
  refine take_yes (i := 21) (d := (some 43)) (v := ?_) rfl (by kernel_rfl) (by kernel_rfl) (by kernel_rfl) rfl (fun _ _ _ h => h) (by rfl) (by assumption) ?_ ?_
  rotate_left
  · (intro w hSw; (try dsimp only at hSw); go_simp; try with_reducible rfl)
  try simp only [Act.put, List.setIfInBounds_toArray, List.set_cons_zero, List.set_cons_succ]
  refine take_yes (i := 22) (d := (some 44)) (v := ?_) rfl (by kernel_rfl) (by kernel_rfl) (by kernel_rfl) rfl (fun _ _ _ h => h) (by rfl) (by assumption) ?_ ?_
  rotate_left
  · (intro w hSw; (try dsimp only at hSw); go_simp; try with_reducible rfl)
  try simp only [Act.put, List.setIfInBounds_toArray, List.set_cons_zero, List.set_cons_succ]
  refine take_yes (i := 23) (d := (some 45)) (v := ?_) rfl (by kernel_rfl) (by kernel_rfl) (by kernel_rfl) rfl (fun _ _ _ h => h) (by rfl) (by assumption) ?_ ?_
  rotate_left
  · (intro w hSw; (try dsimp only at hSw); go_simp; try with_reducible rfl)
  try simp only [Act.put, List.setIfInBounds_toArray, List.set_cons_zero, List.set_cons_succ]
  refine take_yes (i := 24) (d := (some 46)) (v := ?_) rfl (by kernel_rfl) (by kernel_rfl) (by kernel_rfl) rfl (fun _ _ _ h => h) (by rfl) (by assumption) ?_ ?_
  rotate_left
  · (intro w hSw; (try dsimp only at hSw); go_simp; try with_reducible rfl)
  try simp only [Act.put, List.setIfInBounds_toArray, List.set_cons_zero, List.set_cons_succ]
  refine wpAnyH_done (by kernel_rfl) ?_ _
  all_goals
    obtain ⟨x0, x1, x2, y0, y1, y2, a0, a1, b0, b1, CB⟩ := ‹HeldRC w xn xv xs yn yv ys ka sa kb sb _›
    have CC := Lib.hid CB
    clear CB
    go_wp2_with fail
    refine (rorder_any _ _ _ _ HC.out).mono ?_
    rintro e w9 ⟨rfl, rfl⟩
    go_wp2_with fail
    go_ret2
    first | exact ⟨rfl, CC.out⟩ | exact ⟨rfl, CC.out.drew⟩
set_option maxRecDepth 100000 in
set_option maxHeartbeats 4000000 in
theorem rcmp_n_true (xn yn : Bool) (xv yv ka sa kb sb : Int) (xs ys : ByteArray) (c p q r s : Int) (hk3 : (ka == 3) = false) (hc : (decide (p < r) = true ∧ decide (r < p) = false ∧ (p == r) = false ∧ c = -1) ∨ (decide (p < r) = false ∧ decide (r < p) = true ∧ (p == r) = false ∧ c = 1) ∨ (decide (p < r) = false ∧ decide (r < p) = false ∧ (p == r) = true ∧ (if decide (q < s) then -1 else if decide (s < q) then 1 else 0 : Int) = c))(h1 : fitsB ⟨ka, sa⟩ false ⟨xn, xv, xs⟩ = true) (h2 : fitsB ⟨kb, sb⟩ false ⟨yn, yv, ys⟩ = true) (k1 : RNum ka true) (k2 : RNum kb true) (p1 : PaK xv sa p q) (p2 : PaK yv sb r s) (w : World) : Calls Tryz.prog 8 #[.agg #[.bool xn, .int .i64 xv, .string xs], .agg #[.bool yn, .int .i64 yv, .string ys], .agg #[.int .i64 ka, .int .i64 sa], .agg #[.int .i64 kb, .int .i64 sb]] w fun e w' => e = .returned (.tuple #[.int .i64 c, .bool true]) ∧ Below w.heap.size w w' := by
  have H1 := Lib.hid h1
  have H2 := Lib.hid h2
  have K1 := Lib.hid k1
  have K2 := Lib.hid k2
  have HC := Lib.hid hc
  have P1 := Lib.hid p1
  have P2 := Lib.hid p2
  clear h1 h2 k1 k2 hc p1 p2
  have C := Lib.hid (below0 w)
  have qx_0 : (w.alloc (.cells #[.bool xn, .int .i64 xv, .string xs] 23)).cell? ⟨w.heap.size, 0, none⟩ = some (.bool xn) := World.cell?_alloc_at _ _ _ _ (rfl)
  have qx_1 : (w.alloc (.cells #[.bool xn, .int .i64 xv, .string xs] 23)).cell? ⟨w.heap.size, 1, none⟩ = some (.int .i64 xv) := World.cell?_alloc_at _ _ _ _ (rfl)
  have qx_2 : (w.alloc (.cells #[.bool xn, .int .i64 xv, .string xs] 23)).cell? ⟨w.heap.size, 2, none⟩ = some (.string xs) := World.cell?_alloc_at _ _ _ _ (rfl)
  replace C := Lib.hid (ba C.out (.cells #[.bool xn, .int .i64 xv, .string xs] 23))
  replace qx_0 : ((w.alloc (.cells #[.bool xn, .int .i64 xv, .string xs] 23)).alloc (.cells #[.bool yn, .int .i64 yv, .string ys] 23)).cell? ⟨w.heap.size, 0, none⟩ = some (.bool xn) := past1 _ qx_0
  replace qx_1 : ((w.alloc (.cells #[.bool xn, .int .i64 xv, .string xs] 23)).alloc (.cells #[.bool yn, .int .i64 yv, .string ys] 23)).cell? ⟨w.heap.size, 1, none⟩ = some (.int .i64 xv) := past1 _ qx_1
  replace qx_2 : ((w.alloc (.cells #[.bool xn, .int .i64 xv, .string xs] 23)).alloc (.cells #[.bool yn, .int .i64 yv, .string ys] 23)).cell? ⟨w.heap.size, 2, none⟩ = some (.string xs) := past1 _ qx_2
  have qy_0 : ((w.alloc (.cells #[.bool xn, .int .i64 xv, .string xs] 23)).alloc (.cells #[.bool yn, .int .i64 yv, .string ys] 23)).cell? ⟨w.heap.size + 1, 0, none⟩ = some (.bool yn) := World.cell?_alloc_at _ _ _ _ (by simp)
  have qy_1 : ((w.alloc (.cells #[.bool xn, .int .i64 xv, .string xs] 23)).alloc (.cells #[.bool yn, .int .i64 yv, .string ys] 23)).cell? ⟨w.heap.size + 1, 1, none⟩ = some (.int .i64 yv) := World.cell?_alloc_at _ _ _ _ (by simp)
  have qy_2 : ((w.alloc (.cells #[.bool xn, .int .i64 xv, .string xs] 23)).alloc (.cells #[.bool yn, .int .i64 yv, .string ys] 23)).cell? ⟨w.heap.size + 1, 2, none⟩ = some (.string ys) := World.cell?_alloc_at _ _ _ _ (by simp)
  replace C := Lib.hid (ba C.out (.cells #[.bool yn, .int .i64 yv, .string ys] 23))
  replace qx_0 : (((w.alloc (.cells #[.bool xn, .int .i64 xv, .string xs] 23)).alloc (.cells #[.bool yn, .int .i64 yv, .string ys] 23)).alloc (.cells #[.int .i64 ka, .int .i64 sa] 25)).cell? ⟨w.heap.size, 0, none⟩ = some (.bool xn) := past1 _ qx_0
  replace qx_1 : (((w.alloc (.cells #[.bool xn, .int .i64 xv, .string xs] 23)).alloc (.cells #[.bool yn, .int .i64 yv, .string ys] 23)).alloc (.cells #[.int .i64 ka, .int .i64 sa] 25)).cell? ⟨w.heap.size, 1, none⟩ = some (.int .i64 xv) := past1 _ qx_1
  replace qx_2 : (((w.alloc (.cells #[.bool xn, .int .i64 xv, .string xs] 23)).alloc (.cells #[.bool yn, .int .i64 yv, .string ys] 23)).alloc (.cells #[.int .i64 ka, .int .i64 sa] 25)).cell? ⟨w.heap.size, 2, none⟩ = some (.string xs) := past1 _ qx_2
  replace qy_0 : (((w.alloc (.cells #[.bool xn, .int .i64 xv, .string xs] 23)).alloc (.cells #[.bool yn, .int .i64 yv, .string ys] 23)).alloc (.cells #[.int .i64 ka, .int .i64 sa] 25)).cell? ⟨w.heap.size + 1, 0, none⟩ = some (.bool yn) := past1 _ qy_0
  replace qy_1 : (((w.alloc (.cells #[.bool xn, .int .i64 xv, .string xs] 23)).alloc (.cells #[.bool yn, .int .i64 yv, .string ys] 23)).alloc (.cells #[.int .i64 ka, .int .i64 sa] 25)).cell? ⟨w.heap.size + 1, 1, none⟩ = some (.int .i64 yv) := past1 _ qy_1
  replace qy_2 : (((w.alloc (.cells #[.bool xn, .int .i64 xv, .string xs] 23)).alloc (.cells #[.bool yn, .int .i64 yv, .string ys] 23)).alloc (.cells #[.int .i64 ka, .int .i64 sa] 25)).cell? ⟨w.heap.size + 1, 2, none⟩ = some (.string ys) := past1 _ qy_2
  have qa_0 : (((w.alloc (.cells #[.bool xn, .int .i64 xv, .string xs] 23)).alloc (.cells #[.bool yn, .int .i64 yv, .string ys] 23)).alloc (.cells #[.int .i64 ka, .int .i64 sa] 25)).cell? ⟨w.heap.size + 1 + 1, 0, none⟩ = some (.int .i64 ka) := World.cell?_alloc_at _ _ _ _ (by simp)
  have qa_1 : (((w.alloc (.cells #[.bool xn, .int .i64 xv, .string xs] 23)).alloc (.cells #[.bool yn, .int .i64 yv, .string ys] 23)).alloc (.cells #[.int .i64 ka, .int .i64 sa] 25)).cell? ⟨w.heap.size + 1 + 1, 1, none⟩ = some (.int .i64 sa) := World.cell?_alloc_at _ _ _ _ (by simp)
  replace C := Lib.hid (ba C.out (.cells #[.int .i64 ka, .int .i64 sa] 25))
  replace qx_0 : ((((w.alloc (.cells #[.bool xn, .int .i64 xv, .string xs] 23)).alloc (.cells #[.bool yn, .int .i64 yv, .string ys] 23)).alloc (.cells #[.int .i64 ka, .int .i64 sa] 25)).alloc (.cells #[.int .i64 kb, .int .i64 sb] 25)).cell? ⟨w.heap.size, 0, none⟩ = some (.bool xn) := past1 _ qx_0
  replace qx_1 : ((((w.alloc (.cells #[.bool xn, .int .i64 xv, .string xs] 23)).alloc (.cells #[.bool yn, .int .i64 yv, .string ys] 23)).alloc (.cells #[.int .i64 ka, .int .i64 sa] 25)).alloc (.cells #[.int .i64 kb, .int .i64 sb] 25)).cell? ⟨w.heap.size, 1, none⟩ = some (.int .i64 xv) := past1 _ qx_1
  replace qx_2 : ((((w.alloc (.cells #[.bool xn, .int .i64 xv, .string xs] 23)).alloc (.cells #[.bool yn, .int .i64 yv, .string ys] 23)).alloc (.cells #[.int .i64 ka, .int .i64 sa] 25)).alloc (.cells #[.int .i64 kb, .int .i64 sb] 25)).cell? ⟨w.heap.size, 2, none⟩ = some (.string xs) := past1 _ qx_2
  replace qy_0 : ((((w.alloc (.cells #[.bool xn, .int .i64 xv, .string xs] 23)).alloc (.cells #[.bool yn, .int .i64 yv, .string ys] 23)).alloc (.cells #[.int .i64 ka, .int .i64 sa] 25)).alloc (.cells #[.int .i64 kb, .int .i64 sb] 25)).cell? ⟨w.heap.size + 1, 0, none⟩ = some (.bool yn) := past1 _ qy_0
  replace qy_1 : ((((w.alloc (.cells #[.bool xn, .int .i64 xv, .string xs] 23)).alloc (.cells #[.bool yn, .int .i64 yv, .string ys] 23)).alloc (.cells #[.int .i64 ka, .int .i64 sa] 25)).alloc (.cells #[.int .i64 kb, .int .i64 sb] 25)).cell? ⟨w.heap.size + 1, 1, none⟩ = some (.int .i64 yv) := past1 _ qy_1
  replace qy_2 : ((((w.alloc (.cells #[.bool xn, .int .i64 xv, .string xs] 23)).alloc (.cells #[.bool yn, .int .i64 yv, .string ys] 23)).alloc (.cells #[.int .i64 ka, .int .i64 sa] 25)).alloc (.cells #[.int .i64 kb, .int .i64 sb] 25)).cell? ⟨w.heap.size + 1, 2, none⟩ = some (.string ys) := past1 _ qy_2
  replace qa_0 : ((((w.alloc (.cells #[.bool xn, .int .i64 xv, .string xs] 23)).alloc (.cells #[.bool yn, .int .i64 yv, .string ys] 23)).alloc (.cells #[.int .i64 ka, .int .i64 sa] 25)).alloc (.cells #[.int .i64 kb, .int .i64 sb] 25)).cell? ⟨w.heap.size + 1 + 1, 0, none⟩ = some (.int .i64 ka) := past1 _ qa_0
  replace qa_1 : ((((w.alloc (.cells #[.bool xn, .int .i64 xv, .string xs] 23)).alloc (.cells #[.bool yn, .int .i64 yv, .string ys] 23)).alloc (.cells #[.int .i64 ka, .int .i64 sa] 25)).alloc (.cells #[.int .i64 kb, .int .i64 sb] 25)).cell? ⟨w.heap.size + 1 + 1, 1, none⟩ = some (.int .i64 sa) := past1 _ qa_1
  have qb_0 : ((((w.alloc (.cells #[.bool xn, .int .i64 xv, .string xs] 23)).alloc (.cells #[.bool yn, .int .i64 yv, .string ys] 23)).alloc (.cells #[.int .i64 ka, .int .i64 sa] 25)).alloc (.cells #[.int .i64 kb, .int .i64 sb] 25)).cell? ⟨w.heap.size + 1 + 1 + 1, 0, none⟩ = some (.int .i64 kb) := World.cell?_alloc_at _ _ _ _ (by simp)
  have qb_1 : ((((w.alloc (.cells #[.bool xn, .int .i64 xv, .string xs] 23)).alloc (.cells #[.bool yn, .int .i64 yv, .string ys] 23)).alloc (.cells #[.int .i64 ka, .int .i64 sa] 25)).alloc (.cells #[.int .i64 kb, .int .i64 sb] 25)).cell? ⟨w.heap.size + 1 + 1 + 1, 1, none⟩ = some (.int .i64 sb) := World.cell?_alloc_at _ _ _ _ (by simp)
  replace C := Lib.hid (ba C.out (.cells #[.int .i64 kb, .int .i64 sb] 25))
  go_enter Tryz.func8, Tryz.ntmps8
  go_wp2_with fail
  refine (rfits_any ka sa false xn xv xs _ _ H1.out).mono ?_
  rintro e w1 ⟨rfl, c⟩
  replace qx_0 : w1.cell? ⟨w.heap.size, 0, none⟩ = some (.bool xn) := cell_later c qx_0
  replace qx_1 : w1.cell? ⟨w.heap.size, 1, none⟩ = some (.int .i64 xv) := cell_later c qx_1
  replace qx_2 : w1.cell? ⟨w.heap.size, 2, none⟩ = some (.string xs) := cell_later c qx_2
  replace qy_0 : w1.cell? ⟨w.heap.size + 1, 0, none⟩ = some (.bool yn) := cell_later c qy_0
  replace qy_1 : w1.cell? ⟨w.heap.size + 1, 1, none⟩ = some (.int .i64 yv) := cell_later c qy_1
  replace qy_2 : w1.cell? ⟨w.heap.size + 1, 2, none⟩ = some (.string ys) := cell_later c qy_2
  replace qa_0 : w1.cell? ⟨w.heap.size + 1 + 1, 0, none⟩ = some (.int .i64 ka) := cell_later c qa_0
  replace qa_1 : w1.cell? ⟨w.heap.size + 1 + 1, 1, none⟩ = some (.int .i64 sa) := cell_later c qa_1
  replace qb_0 : w1.cell? ⟨w.heap.size + 1 + 1 + 1, 0, none⟩ = some (.int .i64 kb) := cell_later c qb_0
  replace qb_1 : w1.cell? ⟨w.heap.size + 1 + 1 + 1, 1, none⟩ = some (.int .i64 sb) := cell_later c qb_1
  have lx : w.heap.size < w1.heap.size := World.block_lt_of_cell? _ _ qx_0
  have ly : w.heap.size + 1 < w1.heap.size := World.block_lt_of_cell? _ _ qy_0
  have la : w.heap.size + 1 + 1 < w1.heap.size := World.block_lt_of_cell? _ _ qa_0
  have lb : w.heap.size + 1 + 1 + 1 < w1.heap.size := World.block_lt_of_cell? _ _ qb_0
  replace C := Lib.hid (bj C.out c)
  clear c
  go_wp2_with fail
  refine (rfits_any kb sb false yn yv ys _ _ H2.out).mono ?_
  rintro e w2 ⟨rfl, c⟩
  replace qx_0 : w2.cell? ⟨w.heap.size, 0, none⟩ = some (.bool xn) := cell_later c qx_0
  replace qx_1 : w2.cell? ⟨w.heap.size, 1, none⟩ = some (.int .i64 xv) := cell_later c qx_1
  replace qx_2 : w2.cell? ⟨w.heap.size, 2, none⟩ = some (.string xs) := cell_later c qx_2
  replace qy_0 : w2.cell? ⟨w.heap.size + 1, 0, none⟩ = some (.bool yn) := cell_later c qy_0
  replace qy_1 : w2.cell? ⟨w.heap.size + 1, 1, none⟩ = some (.int .i64 yv) := cell_later c qy_1
  replace qy_2 : w2.cell? ⟨w.heap.size + 1, 2, none⟩ = some (.string ys) := cell_later c qy_2
  replace qa_0 : w2.cell? ⟨w.heap.size + 1 + 1, 0, none⟩ = some (.int .i64 ka) := cell_later c qa_0
  replace qa_1 : w2.cell? ⟨w.heap.size + 1 + 1, 1, none⟩ = some (.int .i64 sa) := cell_later c qa_1
  replace qb_0 : w2.cell? ⟨w.heap.size + 1 + 1 + 1, 0, none⟩ = some (.int .i64 kb) := cell_later c qb_0
  replace qb_1 : w2.cell? ⟨w.heap.size + 1 + 1 + 1, 1, none⟩ = some (.int .i64 sb) := cell_later c qb_1
  clear lx
  have lx : w.heap.size < w2.heap.size := World.block_lt_of_cell? _ _ qx_0
  clear ly
  have ly : w.heap.size + 1 < w2.heap.size := World.block_lt_of_cell? _ _ qy_0
  clear la
  have la : w.heap.size + 1 + 1 < w2.heap.size := World.block_lt_of_cell? _ _ qa_0
  clear lb
  have lb : w.heap.size + 1 + 1 + 1 < w2.heap.size := World.block_lt_of_cell? _ _ qb_0
  replace C := Lib.hid (bj C.out c)
  clear c
  go_wp2_with fail
  have HZ := Lib.hid (show HeldRC w xn xv xs yn yv ys ka sa kb sb w2.drew from ⟨qx_0, qx_1, qx_2, qy_0, qy_1, qy_2, qa_0, qa_1, qb_0, qb_1, C.out.drew⟩)
  refine wp_region_held_drew (S := fun W => HeldRC w xn xv xs yn yv ys ka sa kb sb W) (by kernel_rfl) HZ.out (fun hHeld => ?_)
  refine take_yes (i := 0) (d := (some 22)) (v := ?_) rfl (by kernel_rfl) (by kernel_rfl) (by kernel_rfl) rfl (fun _ _ _ h => h) (by rfl) (by assumption) ?_ ?_
  rotate_left
  · (intro w hSw; (try dsimp only at hSw); go_simp; try with_reducible rfl)
  try simp only [Act.put, List.setIfInBounds_toArray, List.set_cons_zero, List.set_cons_succ]
  refine take_yes (i := 1) (d := (some 23)) (v := ?_) rfl (by kernel_rfl) (by kernel_rfl) (by kernel_rfl) rfl (fun _ _ _ h => h) (by rfl) (by assumption) ?_ ?_
  rotate_left
  · (intro w hSw; (try dsimp only at hSw); go_simp; try with_reducible rfl)
  try simp only [Act.put, List.setIfInBounds_toArray, List.set_cons_zero, List.set_cons_succ]
  refine take_yes (i := 2) (d := (some 24)) (v := ?_) rfl (by kernel_rfl) (by kernel_rfl) (by kernel_rfl) rfl (fun _ _ _ h => h) (by rfl) (by assumption) ?_ ?_
  rotate_left
  · (intro w hSw; (try dsimp only at hSw); go_simp; try with_reducible rfl)
  try simp only [Act.put, List.setIfInBounds_toArray, List.set_cons_zero, List.set_cons_succ]
  refine take_yes (i := 3) (d := (some 25)) (v := ?_) rfl (by kernel_rfl) (by kernel_rfl) (by kernel_rfl) rfl (fun _ _ _ h => h) (by rfl) (by assumption) ?_ ?_
  rotate_left
  · (intro w hSw; (try dsimp only at hSw); go_simp; try with_reducible rfl)
  try simp only [Act.put, List.setIfInBounds_toArray, List.set_cons_zero, List.set_cons_succ]
  refine take_yes (i := 4) (d := (some 26)) (v := ?_) rfl (by kernel_rfl) (by kernel_rfl) (by kernel_rfl) rfl (fun _ _ _ h => h) (by rfl) (by assumption) ?_ ?_
  rotate_left
  · (intro w hSw; (try dsimp only at hSw); go_simp; try with_reducible rfl)
  try simp only [Act.put, List.setIfInBounds_toArray, List.set_cons_zero, List.set_cons_succ]
  refine take_yes (i := 5) (d := (some 27)) (v := ?_) rfl (by kernel_rfl) (by kernel_rfl) (by kernel_rfl) rfl (fun _ _ _ h => h) (by rfl) (by assumption) ?_ ?_
  rotate_left
  · (intro w hSw; (try dsimp only at hSw); go_simp; try with_reducible rfl)
  try simp only [Act.put, List.setIfInBounds_toArray, List.set_cons_zero, List.set_cons_succ]
  refine take_yes (i := 6) (d := (some 28)) (v := ?_) rfl (by kernel_rfl) (by kernel_rfl) (by kernel_rfl) rfl (fun _ _ _ h => h) (by rfl) (by assumption) ?_ ?_
  rotate_left
  · (intro w hSw; (try dsimp only at hSw); go_simp; try with_reducible rfl)
  try simp only [Act.put, List.setIfInBounds_toArray, List.set_cons_zero, List.set_cons_succ]
  refine take_yes (i := 7) (d := (some 29)) (v := ?_) rfl (by kernel_rfl) (by kernel_rfl) (by kernel_rfl) rfl (fun _ _ _ h => h) (by rfl) (by assumption) ?_ ?_
  rotate_left
  · (intro w hSw; (try dsimp only at hSw); go_simp; try with_reducible rfl)
  try simp only [Act.put, List.setIfInBounds_toArray, List.set_cons_zero, List.set_cons_succ]
  refine take_yes (i := 9) (d := (some 31)) (v := ?_) rfl (by kernel_rfl) (by kernel_rfl) (by kernel_rfl) rfl (fun _ _ _ h => h) (by rfl) (by assumption) ?_ ?_
  rotate_left
  · (intro w hSw; (try dsimp only at hSw); go_simp; try with_reducible rfl)
  try simp only [Act.put, List.setIfInBounds_toArray, List.set_cons_zero, List.set_cons_succ]
  refine wpAnyH_ready (rs := [8]) (by kernel_rfl) (by simp) ?_
  refine AllReadyH.cons (o := _) rfl (fun K hK => ?_) AllReadyH.nil
  go_simp
  go_at_call 35
  refine (rnum_r _ _ _ K1.out _).mono ?_
  rintro e W2 ⟨rfl, c2⟩
  go_wp2_with fail
  refine hK.out _ _ (heldRC_later c2 (by assumption)) (fun hHeld => ?_)
  clear c2
  clear hK K
  try simp only [Act.put, List.setIfInBounds_toArray, List.set_cons_zero, List.set_cons_succ]
  refine wpAnyH_ready (rs := [10]) (by kernel_rfl) (by simp) ?_
  refine AllReadyH.cons (o := _) rfl (fun K hK => ?_) AllReadyH.nil
  go_simp
  go_at_call 35
  refine (rnum_r _ _ _ K2.out _).mono ?_
  rintro e W2 ⟨rfl, c2⟩
  go_wp2_with fail
  refine hK.out _ _ (heldRC_later c2 (by assumption)) (fun hHeld => ?_)
  clear c2
  clear hK K
  try simp only [Act.put, List.setIfInBounds_toArray, List.set_cons_zero, List.set_cons_succ]
  refine take_yes (i := 11) (d := (some 33)) (v := ?_) rfl (by kernel_rfl) (by kernel_rfl) (by kernel_rfl) rfl (fun _ _ _ h => h) (by rfl) (by assumption) ?_ ?_
  rotate_left
  · (intro w hSw; (try dsimp only at hSw); go_simp; try with_reducible rfl)
  try simp only [Act.put, List.setIfInBounds_toArray, List.set_cons_zero, List.set_cons_succ]
  refine take_yes (i := 12) (d := (some 34)) (v := ?_) rfl (by kernel_rfl) (by kernel_rfl) (by kernel_rfl) rfl (fun _ _ _ h => h) (by rfl) (by assumption) ?_ ?_
  rotate_left
  · (intro w hSw; (try dsimp only at hSw); go_simp; try with_reducible rfl)
  try simp only [Act.put, List.setIfInBounds_toArray, List.set_cons_zero, List.set_cons_succ]
  refine take_yes (i := 13) (d := (some 35)) (v := ?_) rfl (by kernel_rfl) (by kernel_rfl) (by kernel_rfl) rfl (fun _ _ _ h => h) (by rfl) (by assumption) ?_ ?_
  rotate_left
  · (intro w hSw; (try dsimp only at hSw); go_simp; try with_reducible rfl)
  try simp only [Act.put, List.setIfInBounds_toArray, List.set_cons_zero, List.set_cons_succ]
  refine take_yes (i := 14) (d := (some 36)) (v := ?_) rfl (by kernel_rfl) (by kernel_rfl) (by kernel_rfl) rfl (fun _ _ _ h => h) (by rfl) (by assumption) ?_ ?_
  rotate_left
  · (intro w hSw; (try dsimp only at hSw); go_simp; try with_reducible rfl)
  try simp only [Act.put, List.setIfInBounds_toArray, List.set_cons_zero, List.set_cons_succ]
  refine wpAnyH_ready (rs := [15]) (by kernel_rfl) (by simp) ?_
  refine AllReadyH.cons (o := _) rfl (fun K hK => ?_) AllReadyH.nil
  go_simp
  go_at_call 35
  refine (rnum_r _ _ _ K1.out _).mono ?_
  rintro e W2 ⟨rfl, c2⟩
  go_wp2_with fail
  refine hK.out _ _ (heldRC_later c2 (by assumption)) (fun hHeld => ?_)
  clear c2
  clear hK K
  try simp only [Act.put, List.setIfInBounds_toArray, List.set_cons_zero, List.set_cons_succ]
  refine take_yes (i := 16) (d := (some 38)) (v := ?_) rfl (by kernel_rfl) (by kernel_rfl) (by kernel_rfl) rfl (fun _ _ _ h => h) (by rfl) (by assumption) ?_ ?_
  rotate_left
  · (intro w hSw; (try dsimp only at hSw); go_simp; try with_reducible rfl)
  try simp only [Act.put, List.setIfInBounds_toArray, List.set_cons_zero, List.set_cons_succ]
  refine take_yes (i := 17) (d := (some 39)) (v := ?_) rfl (by kernel_rfl) (by kernel_rfl) (by kernel_rfl) rfl (fun _ _ _ h => h) (by rfl) (by assumption) ?_ ?_
  rotate_left
  · (intro w hSw; (try dsimp only at hSw); go_simp; try with_reducible rfl)
  try simp only [Act.put, List.setIfInBounds_toArray, List.set_cons_zero, List.set_cons_succ]
  refine take_no (i := 18) (d := (some 40)) rfl (by kernel_rfl) (by kernel_rfl) (by kernel_rfl) rfl (fun _ _ _ h => h) (by rfl) (by assumption) ?_
  try simp only [Act.put, List.setIfInBounds_toArray, List.set_cons_zero, List.set_cons_succ]
  refine take_no (i := 19) (d := (some 41)) rfl (by kernel_rfl) (by kernel_rfl) (by kernel_rfl) rfl (fun _ _ _ h => h) (by rfl) (by assumption) ?_
  try simp only [Act.put, List.setIfInBounds_toArray, List.set_cons_zero, List.set_cons_succ]
  refine take_no (i := 20) (d := (some 42)) rfl (by kernel_rfl) (by kernel_rfl) (by kernel_rfl) rfl (fun _ _ _ h => h) (by rfl) (by assumption) ?_
  try simp only [Act.put, List.setIfInBounds_toArray, List.set_cons_zero, List.set_cons_succ]
  refine take_no (i := 21) (d := (some 43)) rfl (by kernel_rfl) (by kernel_rfl) (by kernel_rfl) rfl (fun _ _ _ h => h) (by rfl) (by assumption) ?_
  try simp only [Act.put, List.setIfInBounds_toArray, List.set_cons_zero, List.set_cons_succ]
  refine take_no (i := 22) (d := (some 44)) rfl (by kernel_rfl) (by kernel_rfl) (by kernel_rfl) rfl (fun _ _ _ h => h) (by rfl) (by assumption) ?_
  try simp only [Act.put, List.setIfInBounds_toArray, List.set_cons_zero, List.set_cons_succ]
  refine take_yes (i := 23) (d := (some 45)) (v := ?_) rfl (by kernel_rfl) (by kernel_rfl) (by kernel_rfl) rfl (fun _ _ _ h => h) (by rfl) (by assumption) ?_ ?_
  rotate_left
  · (intro w hSw; (try dsimp only at hSw); go_simp; try with_reducible rfl)
  try simp only [Act.put, List.setIfInBounds_toArray, List.set_cons_zero, List.set_cons_succ]
  refine take_yes (i := 24) (d := (some 46)) (v := ?_) rfl (by kernel_rfl) (by kernel_rfl) (by kernel_rfl) rfl (fun _ _ _ h => h) (by rfl) (by assumption) ?_ ?_
  rotate_left
  · (intro w hSw; (try dsimp only at hSw); go_simp; try with_reducible rfl)
  try simp only [Act.put, List.setIfInBounds_toArray, List.set_cons_zero, List.set_cons_succ]
  refine wpAnyH_done (by kernel_rfl) ?_ _
  all_goals
    obtain ⟨x0, x1, x2, y0, y1, y2, a0, a1, b0, b1, CB⟩ := ‹HeldRC w xn xv xs yn yv ys ka sa kb sb _›
    have CC := Lib.hid CB
    clear CB
    go_wp2_with fail
    refine (P1.out _).mono ?_
    rintro e w8 ⟨rfl, c8⟩
    replace y1 := cell_later c8 y1
    replace b1 := cell_later c8 b1
    replace CC := Lib.hid (bj CC.out c8)
    clear c8 x0 x1 x2 y0 y2 a0 a1 b0
    go_wp2_with fail
    refine (P2.out _).mono ?_
    rintro e w9 ⟨rfl, c9⟩
    replace CC := Lib.hid (bj CC.out c9)
    clear c9 y1 b1
    rcases HC.out with ⟨d1, d2, d3, d4⟩ | ⟨d1, d2, d3, d4⟩ | ⟨d1, d2, d3, d4⟩
  all_goals
    have D4 := Lib.hid d4
    clear d4
    go_wp2_with fail
    refine (rorder_any _ _ _ c (by first | exact D4.out | exact D4.out.symm)).mono ?_
    rintro e w10 ⟨rfl, rfl⟩
    go_wp2_with fail
    go_ret2
    first | exact ⟨rfl, CC.out⟩ | exact ⟨rfl, CC.out.drew⟩
set_option maxRecDepth 100000 in
set_option maxHeartbeats 4000000 in
theorem rcmp_n_false (xn yn : Bool) (xv yv ka sa kb sb : Int) (xs ys : ByteArray) (c p q r s : Int) (hk3 : (ka == 3) = false) (hkk : (ka != kb) = false) (hkk0 : (ka == kb) = true) (hc : (decide (p < r) = true ∧ decide (r < p) = false ∧ (p == r) = false ∧ c = -1) ∨ (decide (p < r) = false ∧ decide (r < p) = true ∧ (p == r) = false ∧ c = 1) ∨ (decide (p < r) = false ∧ decide (r < p) = false ∧ (p == r) = true ∧ (if decide (q < s) then -1 else if decide (s < q) then 1 else 0 : Int) = c))(h1 : fitsB ⟨ka, sa⟩ false ⟨xn, xv, xs⟩ = true) (h2 : fitsB ⟨kb, sb⟩ false ⟨yn, yv, ys⟩ = true) (k1 : RNum ka false) (k2 : RNum kb false) (p1 : PaK xv sa p q) (p2 : PaK yv sb r s) (w : World) : Calls Tryz.prog 8 #[.agg #[.bool xn, .int .i64 xv, .string xs], .agg #[.bool yn, .int .i64 yv, .string ys], .agg #[.int .i64 ka, .int .i64 sa], .agg #[.int .i64 kb, .int .i64 sb]] w fun e w' => e = .returned (.tuple #[.int .i64 c, .bool true]) ∧ Below w.heap.size w w' := by
  have H1 := Lib.hid h1
  have H2 := Lib.hid h2
  have K1 := Lib.hid k1
  have K2 := Lib.hid k2
  have HC := Lib.hid hc
  have P1 := Lib.hid p1
  have P2 := Lib.hid p2
  clear h1 h2 k1 k2 hc p1 p2
  have C := Lib.hid (below0 w)
  have qx_0 : (w.alloc (.cells #[.bool xn, .int .i64 xv, .string xs] 23)).cell? ⟨w.heap.size, 0, none⟩ = some (.bool xn) := World.cell?_alloc_at _ _ _ _ (rfl)
  have qx_1 : (w.alloc (.cells #[.bool xn, .int .i64 xv, .string xs] 23)).cell? ⟨w.heap.size, 1, none⟩ = some (.int .i64 xv) := World.cell?_alloc_at _ _ _ _ (rfl)
  have qx_2 : (w.alloc (.cells #[.bool xn, .int .i64 xv, .string xs] 23)).cell? ⟨w.heap.size, 2, none⟩ = some (.string xs) := World.cell?_alloc_at _ _ _ _ (rfl)
  replace C := Lib.hid (ba C.out (.cells #[.bool xn, .int .i64 xv, .string xs] 23))
  replace qx_0 : ((w.alloc (.cells #[.bool xn, .int .i64 xv, .string xs] 23)).alloc (.cells #[.bool yn, .int .i64 yv, .string ys] 23)).cell? ⟨w.heap.size, 0, none⟩ = some (.bool xn) := past1 _ qx_0
  replace qx_1 : ((w.alloc (.cells #[.bool xn, .int .i64 xv, .string xs] 23)).alloc (.cells #[.bool yn, .int .i64 yv, .string ys] 23)).cell? ⟨w.heap.size, 1, none⟩ = some (.int .i64 xv) := past1 _ qx_1
  replace qx_2 : ((w.alloc (.cells #[.bool xn, .int .i64 xv, .string xs] 23)).alloc (.cells #[.bool yn, .int .i64 yv, .string ys] 23)).cell? ⟨w.heap.size, 2, none⟩ = some (.string xs) := past1 _ qx_2
  have qy_0 : ((w.alloc (.cells #[.bool xn, .int .i64 xv, .string xs] 23)).alloc (.cells #[.bool yn, .int .i64 yv, .string ys] 23)).cell? ⟨w.heap.size + 1, 0, none⟩ = some (.bool yn) := World.cell?_alloc_at _ _ _ _ (by simp)
  have qy_1 : ((w.alloc (.cells #[.bool xn, .int .i64 xv, .string xs] 23)).alloc (.cells #[.bool yn, .int .i64 yv, .string ys] 23)).cell? ⟨w.heap.size + 1, 1, none⟩ = some (.int .i64 yv) := World.cell?_alloc_at _ _ _ _ (by simp)
  have qy_2 : ((w.alloc (.cells #[.bool xn, .int .i64 xv, .string xs] 23)).alloc (.cells #[.bool yn, .int .i64 yv, .string ys] 23)).cell? ⟨w.heap.size + 1, 2, none⟩ = some (.string ys) := World.cell?_alloc_at _ _ _ _ (by simp)
  replace C := Lib.hid (ba C.out (.cells #[.bool yn, .int .i64 yv, .string ys] 23))
  replace qx_0 : (((w.alloc (.cells #[.bool xn, .int .i64 xv, .string xs] 23)).alloc (.cells #[.bool yn, .int .i64 yv, .string ys] 23)).alloc (.cells #[.int .i64 ka, .int .i64 sa] 25)).cell? ⟨w.heap.size, 0, none⟩ = some (.bool xn) := past1 _ qx_0
  replace qx_1 : (((w.alloc (.cells #[.bool xn, .int .i64 xv, .string xs] 23)).alloc (.cells #[.bool yn, .int .i64 yv, .string ys] 23)).alloc (.cells #[.int .i64 ka, .int .i64 sa] 25)).cell? ⟨w.heap.size, 1, none⟩ = some (.int .i64 xv) := past1 _ qx_1
  replace qx_2 : (((w.alloc (.cells #[.bool xn, .int .i64 xv, .string xs] 23)).alloc (.cells #[.bool yn, .int .i64 yv, .string ys] 23)).alloc (.cells #[.int .i64 ka, .int .i64 sa] 25)).cell? ⟨w.heap.size, 2, none⟩ = some (.string xs) := past1 _ qx_2
  replace qy_0 : (((w.alloc (.cells #[.bool xn, .int .i64 xv, .string xs] 23)).alloc (.cells #[.bool yn, .int .i64 yv, .string ys] 23)).alloc (.cells #[.int .i64 ka, .int .i64 sa] 25)).cell? ⟨w.heap.size + 1, 0, none⟩ = some (.bool yn) := past1 _ qy_0
  replace qy_1 : (((w.alloc (.cells #[.bool xn, .int .i64 xv, .string xs] 23)).alloc (.cells #[.bool yn, .int .i64 yv, .string ys] 23)).alloc (.cells #[.int .i64 ka, .int .i64 sa] 25)).cell? ⟨w.heap.size + 1, 1, none⟩ = some (.int .i64 yv) := past1 _ qy_1
  replace qy_2 : (((w.alloc (.cells #[.bool xn, .int .i64 xv, .string xs] 23)).alloc (.cells #[.bool yn, .int .i64 yv, .string ys] 23)).alloc (.cells #[.int .i64 ka, .int .i64 sa] 25)).cell? ⟨w.heap.size + 1, 2, none⟩ = some (.string ys) := past1 _ qy_2
  have qa_0 : (((w.alloc (.cells #[.bool xn, .int .i64 xv, .string xs] 23)).alloc (.cells #[.bool yn, .int .i64 yv, .string ys] 23)).alloc (.cells #[.int .i64 ka, .int .i64 sa] 25)).cell? ⟨w.heap.size + 1 + 1, 0, none⟩ = some (.int .i64 ka) := World.cell?_alloc_at _ _ _ _ (by simp)
  have qa_1 : (((w.alloc (.cells #[.bool xn, .int .i64 xv, .string xs] 23)).alloc (.cells #[.bool yn, .int .i64 yv, .string ys] 23)).alloc (.cells #[.int .i64 ka, .int .i64 sa] 25)).cell? ⟨w.heap.size + 1 + 1, 1, none⟩ = some (.int .i64 sa) := World.cell?_alloc_at _ _ _ _ (by simp)
  replace C := Lib.hid (ba C.out (.cells #[.int .i64 ka, .int .i64 sa] 25))
  replace qx_0 : ((((w.alloc (.cells #[.bool xn, .int .i64 xv, .string xs] 23)).alloc (.cells #[.bool yn, .int .i64 yv, .string ys] 23)).alloc (.cells #[.int .i64 ka, .int .i64 sa] 25)).alloc (.cells #[.int .i64 kb, .int .i64 sb] 25)).cell? ⟨w.heap.size, 0, none⟩ = some (.bool xn) := past1 _ qx_0
  replace qx_1 : ((((w.alloc (.cells #[.bool xn, .int .i64 xv, .string xs] 23)).alloc (.cells #[.bool yn, .int .i64 yv, .string ys] 23)).alloc (.cells #[.int .i64 ka, .int .i64 sa] 25)).alloc (.cells #[.int .i64 kb, .int .i64 sb] 25)).cell? ⟨w.heap.size, 1, none⟩ = some (.int .i64 xv) := past1 _ qx_1
  replace qx_2 : ((((w.alloc (.cells #[.bool xn, .int .i64 xv, .string xs] 23)).alloc (.cells #[.bool yn, .int .i64 yv, .string ys] 23)).alloc (.cells #[.int .i64 ka, .int .i64 sa] 25)).alloc (.cells #[.int .i64 kb, .int .i64 sb] 25)).cell? ⟨w.heap.size, 2, none⟩ = some (.string xs) := past1 _ qx_2
  replace qy_0 : ((((w.alloc (.cells #[.bool xn, .int .i64 xv, .string xs] 23)).alloc (.cells #[.bool yn, .int .i64 yv, .string ys] 23)).alloc (.cells #[.int .i64 ka, .int .i64 sa] 25)).alloc (.cells #[.int .i64 kb, .int .i64 sb] 25)).cell? ⟨w.heap.size + 1, 0, none⟩ = some (.bool yn) := past1 _ qy_0
  replace qy_1 : ((((w.alloc (.cells #[.bool xn, .int .i64 xv, .string xs] 23)).alloc (.cells #[.bool yn, .int .i64 yv, .string ys] 23)).alloc (.cells #[.int .i64 ka, .int .i64 sa] 25)).alloc (.cells #[.int .i64 kb, .int .i64 sb] 25)).cell? ⟨w.heap.size + 1, 1, none⟩ = some (.int .i64 yv) := past1 _ qy_1
  replace qy_2 : ((((w.alloc (.cells #[.bool xn, .int .i64 xv, .string xs] 23)).alloc (.cells #[.bool yn, .int .i64 yv, .string ys] 23)).alloc (.cells #[.int .i64 ka, .int .i64 sa] 25)).alloc (.cells #[.int .i64 kb, .int .i64 sb] 25)).cell? ⟨w.heap.size + 1, 2, none⟩ = some (.string ys) := past1 _ qy_2
  replace qa_0 : ((((w.alloc (.cells #[.bool xn, .int .i64 xv, .string xs] 23)).alloc (.cells #[.bool yn, .int .i64 yv, .string ys] 23)).alloc (.cells #[.int .i64 ka, .int .i64 sa] 25)).alloc (.cells #[.int .i64 kb, .int .i64 sb] 25)).cell? ⟨w.heap.size + 1 + 1, 0, none⟩ = some (.int .i64 ka) := past1 _ qa_0
  replace qa_1 : ((((w.alloc (.cells #[.bool xn, .int .i64 xv, .string xs] 23)).alloc (.cells #[.bool yn, .int .i64 yv, .string ys] 23)).alloc (.cells #[.int .i64 ka, .int .i64 sa] 25)).alloc (.cells #[.int .i64 kb, .int .i64 sb] 25)).cell? ⟨w.heap.size + 1 + 1, 1, none⟩ = some (.int .i64 sa) := past1 _ qa_1
  have qb_0 : ((((w.alloc (.cells #[.bool xn, .int .i64 xv, .string xs] 23)).alloc (.cells #[.bool yn, .int .i64 yv, .string ys] 23)).alloc (.cells #[.int .i64 ka, .int .i64 sa] 25)).alloc (.cells #[.int .i64 kb, .int .i64 sb] 25)).cell? ⟨w.heap.size + 1 + 1 + 1, 0, none⟩ = some (.int .i64 kb) := World.cell?_alloc_at _ _ _ _ (by simp)
  have qb_1 : ((((w.alloc (.cells #[.bool xn, .int .i64 xv, .string xs] 23)).alloc (.cells #[.bool yn, .int .i64 yv, .string ys] 23)).alloc (.cells #[.int .i64 ka, .int .i64 sa] 25)).alloc (.cells #[.int .i64 kb, .int .i64 sb] 25)).cell? ⟨w.heap.size + 1 + 1 + 1, 1, none⟩ = some (.int .i64 sb) := World.cell?_alloc_at _ _ _ _ (by simp)
  replace C := Lib.hid (ba C.out (.cells #[.int .i64 kb, .int .i64 sb] 25))
  go_enter Tryz.func8, Tryz.ntmps8
  go_wp2_with fail
  refine (rfits_any ka sa false xn xv xs _ _ H1.out).mono ?_
  rintro e w1 ⟨rfl, c⟩
  replace qx_0 : w1.cell? ⟨w.heap.size, 0, none⟩ = some (.bool xn) := cell_later c qx_0
  replace qx_1 : w1.cell? ⟨w.heap.size, 1, none⟩ = some (.int .i64 xv) := cell_later c qx_1
  replace qx_2 : w1.cell? ⟨w.heap.size, 2, none⟩ = some (.string xs) := cell_later c qx_2
  replace qy_0 : w1.cell? ⟨w.heap.size + 1, 0, none⟩ = some (.bool yn) := cell_later c qy_0
  replace qy_1 : w1.cell? ⟨w.heap.size + 1, 1, none⟩ = some (.int .i64 yv) := cell_later c qy_1
  replace qy_2 : w1.cell? ⟨w.heap.size + 1, 2, none⟩ = some (.string ys) := cell_later c qy_2
  replace qa_0 : w1.cell? ⟨w.heap.size + 1 + 1, 0, none⟩ = some (.int .i64 ka) := cell_later c qa_0
  replace qa_1 : w1.cell? ⟨w.heap.size + 1 + 1, 1, none⟩ = some (.int .i64 sa) := cell_later c qa_1
  replace qb_0 : w1.cell? ⟨w.heap.size + 1 + 1 + 1, 0, none⟩ = some (.int .i64 kb) := cell_later c qb_0
  replace qb_1 : w1.cell? ⟨w.heap.size + 1 + 1 + 1, 1, none⟩ = some (.int .i64 sb) := cell_later c qb_1
  have lx : w.heap.size < w1.heap.size := World.block_lt_of_cell? _ _ qx_0
  have ly : w.heap.size + 1 < w1.heap.size := World.block_lt_of_cell? _ _ qy_0
  have la : w.heap.size + 1 + 1 < w1.heap.size := World.block_lt_of_cell? _ _ qa_0
  have lb : w.heap.size + 1 + 1 + 1 < w1.heap.size := World.block_lt_of_cell? _ _ qb_0
  replace C := Lib.hid (bj C.out c)
  clear c
  go_wp2_with fail
  refine (rfits_any kb sb false yn yv ys _ _ H2.out).mono ?_
  rintro e w2 ⟨rfl, c⟩
  replace qx_0 : w2.cell? ⟨w.heap.size, 0, none⟩ = some (.bool xn) := cell_later c qx_0
  replace qx_1 : w2.cell? ⟨w.heap.size, 1, none⟩ = some (.int .i64 xv) := cell_later c qx_1
  replace qx_2 : w2.cell? ⟨w.heap.size, 2, none⟩ = some (.string xs) := cell_later c qx_2
  replace qy_0 : w2.cell? ⟨w.heap.size + 1, 0, none⟩ = some (.bool yn) := cell_later c qy_0
  replace qy_1 : w2.cell? ⟨w.heap.size + 1, 1, none⟩ = some (.int .i64 yv) := cell_later c qy_1
  replace qy_2 : w2.cell? ⟨w.heap.size + 1, 2, none⟩ = some (.string ys) := cell_later c qy_2
  replace qa_0 : w2.cell? ⟨w.heap.size + 1 + 1, 0, none⟩ = some (.int .i64 ka) := cell_later c qa_0
  replace qa_1 : w2.cell? ⟨w.heap.size + 1 + 1, 1, none⟩ = some (.int .i64 sa) := cell_later c qa_1
  replace qb_0 : w2.cell? ⟨w.heap.size + 1 + 1 + 1, 0, none⟩ = some (.int .i64 kb) := cell_later c qb_0
  replace qb_1 : w2.cell? ⟨w.heap.size + 1 + 1 + 1, 1, none⟩ = some (.int .i64 sb) := cell_later c qb_1
  clear lx
  have lx : w.heap.size < w2.heap.size := World.block_lt_of_cell? _ _ qx_0
  clear ly
  have ly : w.heap.size + 1 < w2.heap.size := World.block_lt_of_cell? _ _ qy_0
  clear la
  have la : w.heap.size + 1 + 1 < w2.heap.size := World.block_lt_of_cell? _ _ qa_0
  clear lb
  have lb : w.heap.size + 1 + 1 + 1 < w2.heap.size := World.block_lt_of_cell? _ _ qb_0
  replace C := Lib.hid (bj C.out c)
  clear c
  go_wp2_with fail
  have HZ := Lib.hid (show HeldRC w xn xv xs yn yv ys ka sa kb sb w2.drew from ⟨qx_0, qx_1, qx_2, qy_0, qy_1, qy_2, qa_0, qa_1, qb_0, qb_1, C.out.drew⟩)
  refine wp_region_held_drew (S := fun W => HeldRC w xn xv xs yn yv ys ka sa kb sb W) (by kernel_rfl) HZ.out (fun hHeld => ?_)
  refine take_yes (i := 0) (d := (some 22)) (v := ?_) rfl (by kernel_rfl) (by kernel_rfl) (by kernel_rfl) rfl (fun _ _ _ h => h) (by rfl) (by assumption) ?_ ?_
  rotate_left
  · (intro w hSw; (try dsimp only at hSw); go_simp; try with_reducible rfl)
  try simp only [Act.put, List.setIfInBounds_toArray, List.set_cons_zero, List.set_cons_succ]
  refine take_yes (i := 1) (d := (some 23)) (v := ?_) rfl (by kernel_rfl) (by kernel_rfl) (by kernel_rfl) rfl (fun _ _ _ h => h) (by rfl) (by assumption) ?_ ?_
  rotate_left
  · (intro w hSw; (try dsimp only at hSw); go_simp; try with_reducible rfl)
  try simp only [Act.put, List.setIfInBounds_toArray, List.set_cons_zero, List.set_cons_succ]
  refine take_yes (i := 2) (d := (some 24)) (v := ?_) rfl (by kernel_rfl) (by kernel_rfl) (by kernel_rfl) rfl (fun _ _ _ h => h) (by rfl) (by assumption) ?_ ?_
  rotate_left
  · (intro w hSw; (try dsimp only at hSw); go_simp; try with_reducible rfl)
  try simp only [Act.put, List.setIfInBounds_toArray, List.set_cons_zero, List.set_cons_succ]
  refine take_yes (i := 3) (d := (some 25)) (v := ?_) rfl (by kernel_rfl) (by kernel_rfl) (by kernel_rfl) rfl (fun _ _ _ h => h) (by rfl) (by assumption) ?_ ?_
  rotate_left
  · (intro w hSw; (try dsimp only at hSw); go_simp; try with_reducible rfl)
  try simp only [Act.put, List.setIfInBounds_toArray, List.set_cons_zero, List.set_cons_succ]
  refine take_yes (i := 4) (d := (some 26)) (v := ?_) rfl (by kernel_rfl) (by kernel_rfl) (by kernel_rfl) rfl (fun _ _ _ h => h) (by rfl) (by assumption) ?_ ?_
  rotate_left
  · (intro w hSw; (try dsimp only at hSw); go_simp; try with_reducible rfl)
  try simp only [Act.put, List.setIfInBounds_toArray, List.set_cons_zero, List.set_cons_succ]
  refine take_yes (i := 5) (d := (some 27)) (v := ?_) rfl (by kernel_rfl) (by kernel_rfl) (by kernel_rfl) rfl (fun _ _ _ h => h) (by rfl) (by assumption) ?_ ?_
  rotate_left
  · (intro w hSw; (try dsimp only at hSw); go_simp; try with_reducible rfl)
  try simp only [Act.put, List.setIfInBounds_toArray, List.set_cons_zero, List.set_cons_succ]
  refine take_yes (i := 6) (d := (some 28)) (v := ?_) rfl (by kernel_rfl) (by kernel_rfl) (by kernel_rfl) rfl (fun _ _ _ h => h) (by rfl) (by assumption) ?_ ?_
  rotate_left
  · (intro w hSw; (try dsimp only at hSw); go_simp; try with_reducible rfl)
  try simp only [Act.put, List.setIfInBounds_toArray, List.set_cons_zero, List.set_cons_succ]
  refine take_yes (i := 7) (d := (some 29)) (v := ?_) rfl (by kernel_rfl) (by kernel_rfl) (by kernel_rfl) rfl (fun _ _ _ h => h) (by rfl) (by assumption) ?_ ?_
  rotate_left
  · (intro w hSw; (try dsimp only at hSw); go_simp; try with_reducible rfl)
  try simp only [Act.put, List.setIfInBounds_toArray, List.set_cons_zero, List.set_cons_succ]
  refine take_yes (i := 9) (d := (some 31)) (v := ?_) rfl (by kernel_rfl) (by kernel_rfl) (by kernel_rfl) rfl (fun _ _ _ h => h) (by rfl) (by assumption) ?_ ?_
  rotate_left
  · (intro w hSw; (try dsimp only at hSw); go_simp; try with_reducible rfl)
  try simp only [Act.put, List.setIfInBounds_toArray, List.set_cons_zero, List.set_cons_succ]
  refine wpAnyH_ready (rs := [8]) (by kernel_rfl) (by simp) ?_
  refine AllReadyH.cons (o := _) rfl (fun K hK => ?_) AllReadyH.nil
  go_simp
  go_at_call 35
  refine (rnum_r _ _ _ K1.out _).mono ?_
  rintro e W2 ⟨rfl, c2⟩
  go_wp2_with fail
  refine hK.out _ _ (heldRC_later c2 (by assumption)) (fun hHeld => ?_)
  clear c2
  clear hK K
  try simp only [Act.put, List.setIfInBounds_toArray, List.set_cons_zero, List.set_cons_succ]
  refine wpAnyH_ready (rs := [10]) (by kernel_rfl) (by simp) ?_
  refine AllReadyH.cons (o := _) rfl (fun K hK => ?_) AllReadyH.nil
  go_simp
  go_at_call 35
  refine (rnum_r _ _ _ K2.out _).mono ?_
  rintro e W2 ⟨rfl, c2⟩
  go_wp2_with fail
  refine hK.out _ _ (heldRC_later c2 (by assumption)) (fun hHeld => ?_)
  clear c2
  clear hK K
  try simp only [Act.put, List.setIfInBounds_toArray, List.set_cons_zero, List.set_cons_succ]
  refine take_yes (i := 11) (d := (some 33)) (v := ?_) rfl (by kernel_rfl) (by kernel_rfl) (by kernel_rfl) rfl (fun _ _ _ h => h) (by rfl) (by assumption) ?_ ?_
  rotate_left
  · (intro w hSw; (try dsimp only at hSw); go_simp; try with_reducible rfl)
  try simp only [Act.put, List.setIfInBounds_toArray, List.set_cons_zero, List.set_cons_succ]
  refine take_yes (i := 12) (d := (some 34)) (v := ?_) rfl (by kernel_rfl) (by kernel_rfl) (by kernel_rfl) rfl (fun _ _ _ h => h) (by rfl) (by assumption) ?_ ?_
  rotate_left
  · (intro w hSw; (try dsimp only at hSw); go_simp; try with_reducible rfl)
  try simp only [Act.put, List.setIfInBounds_toArray, List.set_cons_zero, List.set_cons_succ]
  refine take_yes (i := 13) (d := (some 35)) (v := ?_) rfl (by kernel_rfl) (by kernel_rfl) (by kernel_rfl) rfl (fun _ _ _ h => h) (by rfl) (by assumption) ?_ ?_
  rotate_left
  · (intro w hSw; (try dsimp only at hSw); go_simp; try with_reducible rfl)
  try simp only [Act.put, List.setIfInBounds_toArray, List.set_cons_zero, List.set_cons_succ]
  refine take_yes (i := 14) (d := (some 36)) (v := ?_) rfl (by kernel_rfl) (by kernel_rfl) (by kernel_rfl) rfl (fun _ _ _ h => h) (by rfl) (by assumption) ?_ ?_
  rotate_left
  · (intro w hSw; (try dsimp only at hSw); go_simp; try with_reducible rfl)
  try simp only [Act.put, List.setIfInBounds_toArray, List.set_cons_zero, List.set_cons_succ]
  refine wpAnyH_ready (rs := [15]) (by kernel_rfl) (by simp) ?_
  refine AllReadyH.cons (o := _) rfl (fun K hK => ?_) AllReadyH.nil
  go_simp
  go_at_call 35
  refine (rnum_r _ _ _ K1.out _).mono ?_
  rintro e W2 ⟨rfl, c2⟩
  go_wp2_with fail
  refine hK.out _ _ (heldRC_later c2 (by assumption)) (fun hHeld => ?_)
  clear c2
  clear hK K
  try simp only [Act.put, List.setIfInBounds_toArray, List.set_cons_zero, List.set_cons_succ]
  refine take_yes (i := 16) (d := (some 38)) (v := ?_) rfl (by kernel_rfl) (by kernel_rfl) (by kernel_rfl) rfl (fun _ _ _ h => h) (by rfl) (by assumption) ?_ ?_
  rotate_left
  · (intro w hSw; (try dsimp only at hSw); go_simp; try with_reducible rfl)
  try simp only [Act.put, List.setIfInBounds_toArray, List.set_cons_zero, List.set_cons_succ]
  refine take_yes (i := 17) (d := (some 39)) (v := ?_) rfl (by kernel_rfl) (by kernel_rfl) (by kernel_rfl) rfl (fun _ _ _ h => h) (by rfl) (by assumption) ?_ ?_
  rotate_left
  · (intro w hSw; (try dsimp only at hSw); go_simp; try with_reducible rfl)
  try simp only [Act.put, List.setIfInBounds_toArray, List.set_cons_zero, List.set_cons_succ]
  refine take_yes (i := 18) (d := (some 40)) (v := ?_) rfl (by kernel_rfl) (by kernel_rfl) (by kernel_rfl) rfl (fun _ _ _ h => h) (by rfl) (by assumption) ?_ ?_
  rotate_left
  · (intro w hSw; (try dsimp only at hSw); go_simp; try with_reducible rfl)
  try simp only [Act.put, List.setIfInBounds_toArray, List.set_cons_zero, List.set_cons_succ]
  refine take_yes (i := 19) (d := (some 41)) (v := ?_) rfl (by kernel_rfl) (by kernel_rfl) (by kernel_rfl) rfl (fun _ _ _ h => h) (by rfl) (by assumption) ?_ ?_
  rotate_left
  · (intro w hSw; (try dsimp only at hSw); go_simp; try with_reducible rfl)
  try simp only [Act.put, List.setIfInBounds_toArray, List.set_cons_zero, List.set_cons_succ]
  refine take_yes (i := 20) (d := (some 42)) (v := ?_) rfl (by kernel_rfl) (by kernel_rfl) (by kernel_rfl) rfl (fun _ _ _ h => h) (by rfl) (by assumption) ?_ ?_
  rotate_left
  · (intro w hSw; (try dsimp only at hSw); go_simp; try with_reducible rfl)
  try simp only [Act.put, List.setIfInBounds_toArray, List.set_cons_zero, List.set_cons_succ]
  refine take_yes (i := 21) (d := (some 43)) (v := ?_) rfl (by kernel_rfl) (by kernel_rfl) (by kernel_rfl) rfl (fun _ _ _ h => h) (by rfl) (by assumption) ?_ ?_
  rotate_left
  · (intro w hSw; (try dsimp only at hSw); go_simp; try with_reducible rfl)
  try simp only [Act.put, List.setIfInBounds_toArray, List.set_cons_zero, List.set_cons_succ]
  refine take_yes (i := 22) (d := (some 44)) (v := ?_) rfl (by kernel_rfl) (by kernel_rfl) (by kernel_rfl) rfl (fun _ _ _ h => h) (by rfl) (by assumption) ?_ ?_
  rotate_left
  · (intro w hSw; (try dsimp only at hSw); go_simp; try with_reducible rfl)
  try simp only [Act.put, List.setIfInBounds_toArray, List.set_cons_zero, List.set_cons_succ]
  refine take_yes (i := 23) (d := (some 45)) (v := ?_) rfl (by kernel_rfl) (by kernel_rfl) (by kernel_rfl) rfl (fun _ _ _ h => h) (by rfl) (by assumption) ?_ ?_
  rotate_left
  · (intro w hSw; (try dsimp only at hSw); go_simp; try with_reducible rfl)
  try simp only [Act.put, List.setIfInBounds_toArray, List.set_cons_zero, List.set_cons_succ]
  refine take_yes (i := 24) (d := (some 46)) (v := ?_) rfl (by kernel_rfl) (by kernel_rfl) (by kernel_rfl) rfl (fun _ _ _ h => h) (by rfl) (by assumption) ?_ ?_
  rotate_left
  · (intro w hSw; (try dsimp only at hSw); go_simp; try with_reducible rfl)
  try simp only [Act.put, List.setIfInBounds_toArray, List.set_cons_zero, List.set_cons_succ]
  refine wpAnyH_done (by kernel_rfl) ?_ _
  all_goals
    obtain ⟨x0, x1, x2, y0, y1, y2, a0, a1, b0, b1, CB⟩ := ‹HeldRC w xn xv xs yn yv ys ka sa kb sb _›
    have CC := Lib.hid CB
    clear CB
    go_wp2_with fail
    refine (P1.out _).mono ?_
    rintro e w8 ⟨rfl, c8⟩
    replace y1 := cell_later c8 y1
    replace b1 := cell_later c8 b1
    replace CC := Lib.hid (bj CC.out c8)
    clear c8 x0 x1 x2 y0 y2 a0 a1 b0
    go_wp2_with fail
    refine (P2.out _).mono ?_
    rintro e w9 ⟨rfl, c9⟩
    replace CC := Lib.hid (bj CC.out c9)
    clear c9 y1 b1
    rcases HC.out with ⟨d1, d2, d3, d4⟩ | ⟨d1, d2, d3, d4⟩ | ⟨d1, d2, d3, d4⟩
  all_goals
    have D4 := Lib.hid d4
    clear d4
    go_wp2_with fail
    refine (rorder_any _ _ _ c (by first | exact D4.out | exact D4.out.symm)).mono ?_
    rintro e w10 ⟨rfl, rfl⟩
    go_wp2_with fail
    go_ret2
    first | exact ⟨rfl, CC.out⟩ | exact ⟨rfl, CC.out.drew⟩
end Go.Proofs.YtekpdcofjhdiiaaGreatDoor.Val
