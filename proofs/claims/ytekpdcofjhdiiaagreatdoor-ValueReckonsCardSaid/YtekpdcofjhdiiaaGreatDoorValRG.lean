/-
  The reference's Arith of chapter 10. No condition beyond what each theorem names.
-/
import Derived.Test.YtekpdcofjhdiiaaGreatDoorValG
import Derived.Test.YtekpdcofjhdiiaaGreatDoorValRA
namespace Go.Proofs.YtekpdcofjhdiiaaGreatDoor.Val
open Go.RowKit Go.Maps
set_option linter.unusedVariables false
set_option linter.unusedSimpArgs false
set_option maxRecDepth 100000 in
set_option maxHeartbeats 4000000 in
theorem rar_ty (op : UInt8) (xn : Bool) (xv : Int) (xs : ByteArray) (yn : Bool) (yv : Int) (ys : ByteArray) (ka sa kb sb : Int) (w : World) (h0 : arithTy op ⟨ka, sa⟩ ⟨kb, sb⟩ = none) : Calls Tryz.prog 6 #[.int .u8 (op.toNat : Int), .agg #[.bool xn, .int .i64 xv, .string xs], .agg #[.bool yn, .int .i64 yv, .string ys], .agg #[.int .i64 ka, .int .i64 sa], .agg #[.int .i64 kb, .int .i64 sb]] w (ArS w noVa 4) := by
  have HT0 := Lib.hid h0
  clear h0
  obtain ⟨hA0, hB0, hS0⟩ := args5_at w ⟨xn, xv, xs⟩ ⟨yn, yv, ys⟩ ⟨ka, sa⟩ ⟨kb, sb⟩
  have HA := Lib.hid hA0
  have CX := Lib.hid hB0
  clear hA0 hB0 hS0
  go_enter Tryz.func6, Tryz.ntmps6
  go_wp2_with fail
  refine (raty_any op ka sa kb sb _ _ HT0.out).mono ?_
  rintro e wA ⟨rfl, cA⟩
  have HA := Lib.hid (HA.out.later cA)
  have CX := Lib.hid (CX.out.trans (cA.mono CX.out.size))
  clear cA
  have hlt : w.heap.size + 1 + 1 + 1 + 1 < wA.heap.size := (Array.getElem?_eq_some_iff.1 HA.out.2.2.2.2).1
  have HT := Lib.hid (show (wA.alloc (.cells #[.int .i64 0, .int .i64 0] 25)).heap[wA.heap.size]? = some (tyO ⟨0, 0⟩) from alloc_at _ _ _ rfl)
  have HA := Lib.hid (HA.out.later ((Below.refl _ _).alloc (Nat.le_refl _) (.cells #[.int .i64 0, .int .i64 0] 25)))
  have CX := Lib.hid (CX.out.alloc CX.out.size (.cells #[.int .i64 0, .int .i64 0] 25))
  obtain ⟨Tb, hTb⟩ : ∃ Tb, wA.heap.size = Tb := ⟨_, rfl⟩
  have HTL := Lib.hid (show w.heap.size + 1 + 1 + 1 + 1 < Tb by omega)
  go_upto_region 2 with fail
  obtain ⟨W1, hW1⟩ : ∃ W1, wA.alloc (.cells #[.int .i64 0, .int .i64 0] 25) = W1 := ⟨_, rfl⟩
  rw [hTb, hW1] at HT
  rw [hW1] at HA CX
  rw [hW1]
  (try rw [hTb])
  clear hTb hW1 hlt
  obtain ⟨x0, x1, x2, fx, y0, y1, y2, fy⟩ := HA.out.cellsX
  obtain ⟨a0, a1, b0, b1⟩ := HA.out.cellsT
  obtain ⟨r0, r1, r2, fr⟩ := HA.out.cellsR
  have t1 := cell_of_row W1 Tb 1 _ _ _ HT.out
  go_wp2_with fail
  exact bodyPost_ret (v := .tuple #[.agg #[.bool false, .int .i64 0, .string ⟨#[]⟩], .int .i64 4]) (by simp [results, Tryz.results6, go_sem, r0, r1, r2, fr]) rfl (ar_end noVa 4 CX.out _ _ _)
set_option maxRecDepth 100000 in
set_option maxHeartbeats 4000000 in
theorem rar_fx (op : UInt8) (xn : Bool) (xv : Int) (xs : ByteArray) (yn : Bool) (yv : Int) (ys : ByteArray) (ka sa kb sb : Int) (w : World)  (s : Int) (h0 : arithTy op ⟨ka, sa⟩ ⟨kb, sb⟩ = some s) (f2 : Bool) (h1 : fitsB ⟨ka, sa⟩ true ⟨xn, xv, xs⟩ = false) (h2 : fitsB ⟨kb, sb⟩ true ⟨yn, yv, ys⟩ = f2) : Calls Tryz.prog 6 #[.int .u8 (op.toNat : Int), .agg #[.bool xn, .int .i64 xv, .string xs], .agg #[.bool yn, .int .i64 yv, .string ys], .agg #[.int .i64 ka, .int .i64 sa], .agg #[.int .i64 kb, .int .i64 sb]] w (ArS w noVa 1) := by
  have HT0 := Lib.hid h0
  clear h0
  have H1 := Lib.hid h1
  clear h1
  have H2 := Lib.hid h2
  clear h2
  obtain ⟨hA0, hB0, hS0⟩ := args5_at w ⟨xn, xv, xs⟩ ⟨yn, yv, ys⟩ ⟨ka, sa⟩ ⟨kb, sb⟩
  have HA := Lib.hid hA0
  have CX := Lib.hid hB0
  clear hA0 hB0 hS0
  go_enter Tryz.func6, Tryz.ntmps6
  go_wp2_with fail
  refine (raty_any op ka sa kb sb _ _ HT0.out).mono ?_
  rintro e wA ⟨rfl, cA⟩
  have HA := Lib.hid (HA.out.later cA)
  have CX := Lib.hid (CX.out.trans (cA.mono CX.out.size))
  obtain ⟨K, hK⟩ : ∃ K, (typed s).kind = K := ⟨_, rfl⟩
  rw [hK, typed_scale]
  clear hK
  clear cA
  have hlt : w.heap.size + 1 + 1 + 1 + 1 < wA.heap.size := (Array.getElem?_eq_some_iff.1 HA.out.2.2.2.2).1
  have HT := Lib.hid (show (wA.alloc (.cells #[.int .i64 K, .int .i64 s] 25)).heap[wA.heap.size]? = some (tyO ⟨K, s⟩) from alloc_at _ _ _ rfl)
  have HA := Lib.hid (HA.out.later ((Below.refl _ _).alloc (Nat.le_refl _) (.cells #[.int .i64 K, .int .i64 s] 25)))
  have CX := Lib.hid (CX.out.alloc CX.out.size (.cells #[.int .i64 K, .int .i64 s] 25))
  obtain ⟨Tb, hTb⟩ : ∃ Tb, wA.heap.size = Tb := ⟨_, rfl⟩
  have HTL := Lib.hid (show w.heap.size + 1 + 1 + 1 + 1 < Tb by omega)
  go_upto_region 2 with fail
  obtain ⟨W1, hW1⟩ : ∃ W1, wA.alloc (.cells #[.int .i64 K, .int .i64 s] 25) = W1 := ⟨_, rfl⟩
  rw [hTb, hW1] at HT
  rw [hW1] at HA CX
  rw [hW1]
  (try rw [hTb])
  clear hTb hW1 hlt
  obtain ⟨x0, x1, x2, fx, y0, y1, y2, fy⟩ := HA.out.cellsX
  obtain ⟨a0, a1, b0, b1⟩ := HA.out.cellsT
  obtain ⟨r0, r1, r2, fr⟩ := HA.out.cellsR
  have t1 := cell_of_row W1 Tb 1 _ _ _ HT.out
  go_wp2_with fail
  refine (rfits_any ka sa true xn xv xs _ _ H1.out).mono ?_
  rintro e w6 ⟨rfl, c6⟩
  have HA := Lib.hid (HA.out.later c6)
  have CX := Lib.hid (CX.out.trans (c6.mono CX.out.size))
  have HT := Lib.hid (tyO_later HT.out c6)
  clear c6 t1
  clear x0 x1 x2 fx y0 y1 y2 fy a0 a1 b0 b1 r0 r1 r2 fr
  obtain ⟨x0, x1, x2, fx, y0, y1, y2, fy⟩ := HA.out.cellsX
  obtain ⟨a0, a1, b0, b1⟩ := HA.out.cellsT
  obtain ⟨r0, r1, r2, fr⟩ := HA.out.cellsR
  have t1 := cell_of_row w6 Tb 1 _ _ _ HT.out
  go_wp2_with fail
  refine (rfits_any kb sb true yn yv ys _ _ H2.out).mono ?_
  rintro e w7 ⟨rfl, c7⟩
  have HA := Lib.hid (HA.out.later c7)
  have CX := Lib.hid (CX.out.trans (c7.mono CX.out.size))
  have HT := Lib.hid (tyO_later HT.out c7)
  clear c7 t1
  clear x0 x1 x2 fx y0 y1 y2 fy a0 a1 b0 b1 r0 r1 r2 fr
  obtain ⟨x0, x1, x2, fx, y0, y1, y2, fy⟩ := HA.out.cellsX
  obtain ⟨a0, a1, b0, b1⟩ := HA.out.cellsT
  obtain ⟨r0, r1, r2, fr⟩ := HA.out.cellsR
  have t1 := cell_of_row w7 Tb 1 _ _ _ HT.out
  go_wp2_with fail
  exact bodyPost_ret (v := .tuple #[.agg #[.bool false, .int .i64 0, .string ⟨#[]⟩], .int .i64 1]) (by simp [results, Tryz.results6, go_sem, r0, r1, r2, fr]) rfl (ar_end noVa 1 CX.out _ _ _)
set_option maxRecDepth 100000 in
set_option maxHeartbeats 4000000 in
theorem rar_fy (op : UInt8) (xn : Bool) (xv : Int) (xs : ByteArray) (yn : Bool) (yv : Int) (ys : ByteArray) (ka sa kb sb : Int) (w : World)  (s : Int) (h0 : arithTy op ⟨ka, sa⟩ ⟨kb, sb⟩ = some s) (h1 : fitsB ⟨ka, sa⟩ true ⟨xn, xv, xs⟩ = true) (h2 : fitsB ⟨kb, sb⟩ true ⟨yn, yv, ys⟩ = false) : Calls Tryz.prog 6 #[.int .u8 (op.toNat : Int), .agg #[.bool xn, .int .i64 xv, .string xs], .agg #[.bool yn, .int .i64 yv, .string ys], .agg #[.int .i64 ka, .int .i64 sa], .agg #[.int .i64 kb, .int .i64 sb]] w (ArS w noVa 1) := by
  have HT0 := Lib.hid h0
  clear h0
  have H1 := Lib.hid h1
  clear h1
  have H2 := Lib.hid h2
  clear h2
  obtain ⟨hA0, hB0, hS0⟩ := args5_at w ⟨xn, xv, xs⟩ ⟨yn, yv, ys⟩ ⟨ka, sa⟩ ⟨kb, sb⟩
  have HA := Lib.hid hA0
  have CX := Lib.hid hB0
  clear hA0 hB0 hS0
  go_enter Tryz.func6, Tryz.ntmps6
  go_wp2_with fail
  refine (raty_any op ka sa kb sb _ _ HT0.out).mono ?_
  rintro e wA ⟨rfl, cA⟩
  have HA := Lib.hid (HA.out.later cA)
  have CX := Lib.hid (CX.out.trans (cA.mono CX.out.size))
  obtain ⟨K, hK⟩ : ∃ K, (typed s).kind = K := ⟨_, rfl⟩
  rw [hK, typed_scale]
  clear hK
  clear cA
  have hlt : w.heap.size + 1 + 1 + 1 + 1 < wA.heap.size := (Array.getElem?_eq_some_iff.1 HA.out.2.2.2.2).1
  have HT := Lib.hid (show (wA.alloc (.cells #[.int .i64 K, .int .i64 s] 25)).heap[wA.heap.size]? = some (tyO ⟨K, s⟩) from alloc_at _ _ _ rfl)
  have HA := Lib.hid (HA.out.later ((Below.refl _ _).alloc (Nat.le_refl _) (.cells #[.int .i64 K, .int .i64 s] 25)))
  have CX := Lib.hid (CX.out.alloc CX.out.size (.cells #[.int .i64 K, .int .i64 s] 25))
  obtain ⟨Tb, hTb⟩ : ∃ Tb, wA.heap.size = Tb := ⟨_, rfl⟩
  have HTL := Lib.hid (show w.heap.size + 1 + 1 + 1 + 1 < Tb by omega)
  go_upto_region 2 with fail
  obtain ⟨W1, hW1⟩ : ∃ W1, wA.alloc (.cells #[.int .i64 K, .int .i64 s] 25) = W1 := ⟨_, rfl⟩
  rw [hTb, hW1] at HT
  rw [hW1] at HA CX
  rw [hW1]
  (try rw [hTb])
  clear hTb hW1 hlt
  obtain ⟨x0, x1, x2, fx, y0, y1, y2, fy⟩ := HA.out.cellsX
  obtain ⟨a0, a1, b0, b1⟩ := HA.out.cellsT
  obtain ⟨r0, r1, r2, fr⟩ := HA.out.cellsR
  have t1 := cell_of_row W1 Tb 1 _ _ _ HT.out
  go_wp2_with fail
  refine (rfits_any ka sa true xn xv xs _ _ H1.out).mono ?_
  rintro e w8 ⟨rfl, c8⟩
  have HA := Lib.hid (HA.out.later c8)
  have CX := Lib.hid (CX.out.trans (c8.mono CX.out.size))
  have HT := Lib.hid (tyO_later HT.out c8)
  clear c8 t1
  clear x0 x1 x2 fx y0 y1 y2 fy a0 a1 b0 b1 r0 r1 r2 fr
  obtain ⟨x0, x1, x2, fx, y0, y1, y2, fy⟩ := HA.out.cellsX
  obtain ⟨a0, a1, b0, b1⟩ := HA.out.cellsT
  obtain ⟨r0, r1, r2, fr⟩ := HA.out.cellsR
  have t1 := cell_of_row w8 Tb 1 _ _ _ HT.out
  go_wp2_with fail
  refine (rfits_any kb sb true yn yv ys _ _ H2.out).mono ?_
  rintro e w9 ⟨rfl, c9⟩
  have HA := Lib.hid (HA.out.later c9)
  have CX := Lib.hid (CX.out.trans (c9.mono CX.out.size))
  have HT := Lib.hid (tyO_later HT.out c9)
  clear c9 t1
  clear x0 x1 x2 fx y0 y1 y2 fy a0 a1 b0 b1 r0 r1 r2 fr
  obtain ⟨x0, x1, x2, fx, y0, y1, y2, fy⟩ := HA.out.cellsX
  obtain ⟨a0, a1, b0, b1⟩ := HA.out.cellsT
  obtain ⟨r0, r1, r2, fr⟩ := HA.out.cellsR
  have t1 := cell_of_row w9 Tb 1 _ _ _ HT.out
  go_wp2_with fail
  exact bodyPost_ret (v := .tuple #[.agg #[.bool false, .int .i64 0, .string ⟨#[]⟩], .int .i64 1]) (by simp [results, Tryz.results6, go_sem, r0, r1, r2, fr]) rfl (ar_end noVa 1 CX.out _ _ _)
set_option maxRecDepth 100000 in
set_option maxHeartbeats 4000000 in
theorem rar_nx (op : UInt8) (xn : Bool) (xv : Int) (xs : ByteArray) (yn : Bool) (yv : Int) (ys : ByteArray) (ka sa kb sb : Int) (w : World)  (s : Int) (h0 : arithTy op ⟨ka, sa⟩ ⟨kb, sb⟩ = some s) (h1 : fitsB ⟨ka, sa⟩ true ⟨xn, xv, xs⟩ = true) (h2 : fitsB ⟨kb, sb⟩ true ⟨yn, yv, ys⟩ = true) (hx : xn = true) : Calls Tryz.prog 6 #[.int .u8 (op.toNat : Int), .agg #[.bool xn, .int .i64 xv, .string xs], .agg #[.bool yn, .int .i64 yv, .string ys], .agg #[.int .i64 ka, .int .i64 sa], .agg #[.int .i64 kb, .int .i64 sb]] w (ArS w nullVa 0) := by
  have HT0 := Lib.hid h0
  clear h0
  have H1 := Lib.hid h1
  clear h1
  have H2 := Lib.hid h2
  clear h2
  subst hx
  obtain ⟨hA0, hB0, hS0⟩ := args5_at w ⟨true, xv, xs⟩ ⟨yn, yv, ys⟩ ⟨ka, sa⟩ ⟨kb, sb⟩
  have HA := Lib.hid hA0
  have CX := Lib.hid hB0
  clear hA0 hB0 hS0
  go_enter Tryz.func6, Tryz.ntmps6
  go_wp2_with fail
  refine (raty_any op ka sa kb sb _ _ HT0.out).mono ?_
  rintro e wA ⟨rfl, cA⟩
  have HA := Lib.hid (HA.out.later cA)
  have CX := Lib.hid (CX.out.trans (cA.mono CX.out.size))
  obtain ⟨K, hK⟩ : ∃ K, (typed s).kind = K := ⟨_, rfl⟩
  rw [hK, typed_scale]
  clear hK
  clear cA
  have hlt : w.heap.size + 1 + 1 + 1 + 1 < wA.heap.size := (Array.getElem?_eq_some_iff.1 HA.out.2.2.2.2).1
  have HT := Lib.hid (show (wA.alloc (.cells #[.int .i64 K, .int .i64 s] 25)).heap[wA.heap.size]? = some (tyO ⟨K, s⟩) from alloc_at _ _ _ rfl)
  have HA := Lib.hid (HA.out.later ((Below.refl _ _).alloc (Nat.le_refl _) (.cells #[.int .i64 K, .int .i64 s] 25)))
  have CX := Lib.hid (CX.out.alloc CX.out.size (.cells #[.int .i64 K, .int .i64 s] 25))
  obtain ⟨Tb, hTb⟩ : ∃ Tb, wA.heap.size = Tb := ⟨_, rfl⟩
  have HTL := Lib.hid (show w.heap.size + 1 + 1 + 1 + 1 < Tb by omega)
  go_upto_region 2 with fail
  obtain ⟨W1, hW1⟩ : ∃ W1, wA.alloc (.cells #[.int .i64 K, .int .i64 s] 25) = W1 := ⟨_, rfl⟩
  rw [hTb, hW1] at HT
  rw [hW1] at HA CX
  rw [hW1]
  (try rw [hTb])
  clear hTb hW1 hlt
  obtain ⟨x0, x1, x2, fx, y0, y1, y2, fy⟩ := HA.out.cellsX
  obtain ⟨a0, a1, b0, b1⟩ := HA.out.cellsT
  obtain ⟨r0, r1, r2, fr⟩ := HA.out.cellsR
  have t1 := cell_of_row W1 Tb 1 _ _ _ HT.out
  go_wp2_with fail
  refine (rfits_any ka sa true true xv xs _ _ H1.out).mono ?_
  rintro e w10 ⟨rfl, c10⟩
  have HA := Lib.hid (HA.out.later c10)
  have CX := Lib.hid (CX.out.trans (c10.mono CX.out.size))
  have HT := Lib.hid (tyO_later HT.out c10)
  clear c10 t1
  clear x0 x1 x2 fx y0 y1 y2 fy a0 a1 b0 b1 r0 r1 r2 fr
  obtain ⟨x0, x1, x2, fx, y0, y1, y2, fy⟩ := HA.out.cellsX
  obtain ⟨a0, a1, b0, b1⟩ := HA.out.cellsT
  obtain ⟨r0, r1, r2, fr⟩ := HA.out.cellsR
  have t1 := cell_of_row w10 Tb 1 _ _ _ HT.out
  go_wp2_with fail
  refine (rfits_any kb sb true yn yv ys _ _ H2.out).mono ?_
  rintro e w11 ⟨rfl, c11⟩
  have HA := Lib.hid (HA.out.later c11)
  have CX := Lib.hid (CX.out.trans (c11.mono CX.out.size))
  have HT := Lib.hid (tyO_later HT.out c11)
  clear c11 t1
  clear x0 x1 x2 fx y0 y1 y2 fy a0 a1 b0 b1 r0 r1 r2 fr
  obtain ⟨x0, x1, x2, fx, y0, y1, y2, fy⟩ := HA.out.cellsX
  obtain ⟨a0, a1, b0, b1⟩ := HA.out.cellsT
  obtain ⟨r0, r1, r2, fr⟩ := HA.out.cellsR
  have t1 := cell_of_row w11 Tb 1 _ _ _ HT.out
  go_wp2_with fail
  exact bodyPost_ret (v := .tuple #[.agg #[.bool true, .int .i64 0, .string ⟨#[]⟩], .int .i64 0]) (by simp [results, Tryz.results6, go_sem, r0, r1, r2, fr]) rfl (ar_end nullVa 0 CX.out _ _ _)
set_option maxRecDepth 100000 in
set_option maxHeartbeats 4000000 in
theorem rar_ny (op : UInt8) (xn : Bool) (xv : Int) (xs : ByteArray) (yn : Bool) (yv : Int) (ys : ByteArray) (ka sa kb sb : Int) (w : World)  (s : Int) (h0 : arithTy op ⟨ka, sa⟩ ⟨kb, sb⟩ = some s) (h1 : fitsB ⟨ka, sa⟩ true ⟨xn, xv, xs⟩ = true) (h2 : fitsB ⟨kb, sb⟩ true ⟨yn, yv, ys⟩ = true) (hx : xn = false) (hy : yn = true) : Calls Tryz.prog 6 #[.int .u8 (op.toNat : Int), .agg #[.bool xn, .int .i64 xv, .string xs], .agg #[.bool yn, .int .i64 yv, .string ys], .agg #[.int .i64 ka, .int .i64 sa], .agg #[.int .i64 kb, .int .i64 sb]] w (ArS w nullVa 0) := by
  have HT0 := Lib.hid h0
  clear h0
  have H1 := Lib.hid h1
  clear h1
  have H2 := Lib.hid h2
  clear h2
  subst hx
  subst hy
  obtain ⟨hA0, hB0, hS0⟩ := args5_at w ⟨false, xv, xs⟩ ⟨true, yv, ys⟩ ⟨ka, sa⟩ ⟨kb, sb⟩
  have HA := Lib.hid hA0
  have CX := Lib.hid hB0
  clear hA0 hB0 hS0
  go_enter Tryz.func6, Tryz.ntmps6
  go_wp2_with fail
  refine (raty_any op ka sa kb sb _ _ HT0.out).mono ?_
  rintro e wA ⟨rfl, cA⟩
  have HA := Lib.hid (HA.out.later cA)
  have CX := Lib.hid (CX.out.trans (cA.mono CX.out.size))
  obtain ⟨K, hK⟩ : ∃ K, (typed s).kind = K := ⟨_, rfl⟩
  rw [hK, typed_scale]
  clear hK
  clear cA
  have hlt : w.heap.size + 1 + 1 + 1 + 1 < wA.heap.size := (Array.getElem?_eq_some_iff.1 HA.out.2.2.2.2).1
  have HT := Lib.hid (show (wA.alloc (.cells #[.int .i64 K, .int .i64 s] 25)).heap[wA.heap.size]? = some (tyO ⟨K, s⟩) from alloc_at _ _ _ rfl)
  have HA := Lib.hid (HA.out.later ((Below.refl _ _).alloc (Nat.le_refl _) (.cells #[.int .i64 K, .int .i64 s] 25)))
  have CX := Lib.hid (CX.out.alloc CX.out.size (.cells #[.int .i64 K, .int .i64 s] 25))
  obtain ⟨Tb, hTb⟩ : ∃ Tb, wA.heap.size = Tb := ⟨_, rfl⟩
  have HTL := Lib.hid (show w.heap.size + 1 + 1 + 1 + 1 < Tb by omega)
  go_upto_region 2 with fail
  obtain ⟨W1, hW1⟩ : ∃ W1, wA.alloc (.cells #[.int .i64 K, .int .i64 s] 25) = W1 := ⟨_, rfl⟩
  rw [hTb, hW1] at HT
  rw [hW1] at HA CX
  rw [hW1]
  (try rw [hTb])
  clear hTb hW1 hlt
  obtain ⟨x0, x1, x2, fx, y0, y1, y2, fy⟩ := HA.out.cellsX
  obtain ⟨a0, a1, b0, b1⟩ := HA.out.cellsT
  obtain ⟨r0, r1, r2, fr⟩ := HA.out.cellsR
  have t1 := cell_of_row W1 Tb 1 _ _ _ HT.out
  go_wp2_with fail
  refine (rfits_any ka sa true false xv xs _ _ H1.out).mono ?_
  rintro e w12 ⟨rfl, c12⟩
  have HA := Lib.hid (HA.out.later c12)
  have CX := Lib.hid (CX.out.trans (c12.mono CX.out.size))
  have HT := Lib.hid (tyO_later HT.out c12)
  clear c12 t1
  clear x0 x1 x2 fx y0 y1 y2 fy a0 a1 b0 b1 r0 r1 r2 fr
  obtain ⟨x0, x1, x2, fx, y0, y1, y2, fy⟩ := HA.out.cellsX
  obtain ⟨a0, a1, b0, b1⟩ := HA.out.cellsT
  obtain ⟨r0, r1, r2, fr⟩ := HA.out.cellsR
  have t1 := cell_of_row w12 Tb 1 _ _ _ HT.out
  go_wp2_with fail
  refine (rfits_any kb sb true true yv ys _ _ H2.out).mono ?_
  rintro e w13 ⟨rfl, c13⟩
  have HA := Lib.hid (HA.out.later c13)
  have CX := Lib.hid (CX.out.trans (c13.mono CX.out.size))
  have HT := Lib.hid (tyO_later HT.out c13)
  clear c13 t1
  clear x0 x1 x2 fx y0 y1 y2 fy a0 a1 b0 b1 r0 r1 r2 fr
  obtain ⟨x0, x1, x2, fx, y0, y1, y2, fy⟩ := HA.out.cellsX
  obtain ⟨a0, a1, b0, b1⟩ := HA.out.cellsT
  obtain ⟨r0, r1, r2, fr⟩ := HA.out.cellsR
  have t1 := cell_of_row w13 Tb 1 _ _ _ HT.out
  go_wp2_with fail
  exact bodyPost_ret (v := .tuple #[.agg #[.bool true, .int .i64 0, .string ⟨#[]⟩], .int .i64 0]) (by simp [results, Tryz.results6, go_sem, r0, r1, r2, fr]) rfl (ar_end nullVa 0 CX.out _ _ _)
set_option maxRecDepth 100000 in
set_option maxHeartbeats 4000000 in
theorem rar_p_e (op : UInt8) (xn : Bool) (xv : Int) (xs : ByteArray) (yn : Bool) (yv : Int) (ys : ByteArray) (ka sa kb sb : Int) (w : World)  (s : Int) (h0 : arithTy op ⟨ka, sa⟩ ⟨kb, sb⟩ = some s) (h1 : fitsB ⟨ka, sa⟩ true ⟨xn, xv, xs⟩ = true) (h2 : fitsB ⟨kb, sb⟩ true ⟨yn, yv, ys⟩ = true) (hx : xn = false) (hy : yn = false) (hxv : I64 xv) (hyv : I64 yv) (h43 : (op == 43) = true) (p e1 : Int) (hxs : scaleP xv sa s = (p, e1)) (q e2 : Int) (hys : scaleP yv sb s = (q, e2)) (he : e1 ≠ 0) : Calls Tryz.prog 6 #[.int .u8 (op.toNat : Int), .agg #[.bool xn, .int .i64 xv, .string xs], .agg #[.bool yn, .int .i64 yv, .string ys], .agg #[.int .i64 ka, .int .i64 sa], .agg #[.int .i64 kb, .int .i64 sb]] w (ArS w noVa 11) := by
  have HT0 := Lib.hid h0
  clear h0
  have H1 := Lib.hid h1
  clear h1
  have H2 := Lib.hid h2
  clear h2
  subst hx
  subst hy
  have HXV := Lib.hid hxv
  have HYV := Lib.hid hyv
  clear hxv hyv
  have e43 : ((op.toNat : Int) == 43) = true := by rw [show (43 : Int) = ((43 : Nat) : Int) from rfl, op_num op 43 (by decide)]; exact h43
  clear h43
  have HXS := Lib.hid hxs
  have HYS := Lib.hid hys
  clear hxs hys
  have ee : (e1 != 0) = true := bne_iff_ne.2 he
  clear he
  obtain ⟨hA0, hB0, hS0⟩ := args5_at w ⟨false, xv, xs⟩ ⟨false, yv, ys⟩ ⟨ka, sa⟩ ⟨kb, sb⟩
  have HA := Lib.hid hA0
  have CX := Lib.hid hB0
  clear hA0 hB0 hS0
  go_enter Tryz.func6, Tryz.ntmps6
  go_wp2_with fail
  refine (raty_any op ka sa kb sb _ _ HT0.out).mono ?_
  rintro e wA ⟨rfl, cA⟩
  have HA := Lib.hid (HA.out.later cA)
  have CX := Lib.hid (CX.out.trans (cA.mono CX.out.size))
  obtain ⟨K, hK⟩ : ∃ K, (typed s).kind = K := ⟨_, rfl⟩
  rw [hK, typed_scale]
  clear hK
  clear cA
  have hlt : w.heap.size + 1 + 1 + 1 + 1 < wA.heap.size := (Array.getElem?_eq_some_iff.1 HA.out.2.2.2.2).1
  have HT := Lib.hid (show (wA.alloc (.cells #[.int .i64 K, .int .i64 s] 25)).heap[wA.heap.size]? = some (tyO ⟨K, s⟩) from alloc_at _ _ _ rfl)
  have HA := Lib.hid (HA.out.later ((Below.refl _ _).alloc (Nat.le_refl _) (.cells #[.int .i64 K, .int .i64 s] 25)))
  have CX := Lib.hid (CX.out.alloc CX.out.size (.cells #[.int .i64 K, .int .i64 s] 25))
  obtain ⟨Tb, hTb⟩ : ∃ Tb, wA.heap.size = Tb := ⟨_, rfl⟩
  have HTL := Lib.hid (show w.heap.size + 1 + 1 + 1 + 1 < Tb by omega)
  go_upto_region 2 with fail
  obtain ⟨W1, hW1⟩ : ∃ W1, wA.alloc (.cells #[.int .i64 K, .int .i64 s] 25) = W1 := ⟨_, rfl⟩
  rw [hTb, hW1] at HT
  rw [hW1] at HA CX
  rw [hW1]
  (try rw [hTb])
  clear hTb hW1 hlt
  obtain ⟨x0, x1, x2, fx, y0, y1, y2, fy⟩ := HA.out.cellsX
  obtain ⟨a0, a1, b0, b1⟩ := HA.out.cellsT
  obtain ⟨r0, r1, r2, fr⟩ := HA.out.cellsR
  have t1 := cell_of_row W1 Tb 1 _ _ _ HT.out
  go_wp2_with fail
  refine (rfits_any ka sa true false xv xs _ _ H1.out).mono ?_
  rintro e w16 ⟨rfl, c16⟩
  have HA := Lib.hid (HA.out.later c16)
  have CX := Lib.hid (CX.out.trans (c16.mono CX.out.size))
  have HT := Lib.hid (tyO_later HT.out c16)
  clear c16 t1
  clear x0 x1 x2 fx y0 y1 y2 fy a0 a1 b0 b1 r0 r1 r2 fr
  obtain ⟨x0, x1, x2, fx, y0, y1, y2, fy⟩ := HA.out.cellsX
  obtain ⟨a0, a1, b0, b1⟩ := HA.out.cellsT
  obtain ⟨r0, r1, r2, fr⟩ := HA.out.cellsR
  have t1 := cell_of_row w16 Tb 1 _ _ _ HT.out
  go_wp2_with fail
  refine (rfits_any kb sb true false yv ys _ _ H2.out).mono ?_
  rintro e w17 ⟨rfl, c17⟩
  have HA := Lib.hid (HA.out.later c17)
  have CX := Lib.hid (CX.out.trans (c17.mono CX.out.size))
  have HT := Lib.hid (tyO_later HT.out c17)
  clear c17 t1
  clear x0 x1 x2 fx y0 y1 y2 fy a0 a1 b0 b1 r0 r1 r2 fr
  obtain ⟨x0, x1, x2, fx, y0, y1, y2, fy⟩ := HA.out.cellsX
  obtain ⟨a0, a1, b0, b1⟩ := HA.out.cellsT
  obtain ⟨r0, r1, r2, fr⟩ := HA.out.cellsR
  have t1 := cell_of_row w17 Tb 1 _ _ _ HT.out
  go_wp2_with fail
  refine (rscale_any xv sa s HXV.out _ _ _ HXS.out).mono ?_
  rintro e w' ⟨rfl, rfl⟩
  go_wp2_with fail
  refine (rscale_any yv sb s HYV.out _ _ _ HYS.out).mono ?_
  rintro e w' ⟨rfl, rfl⟩
  go_wp2_with fail
  exact bodyPost_ret (v := .tuple #[.agg #[.bool false, .int .i64 0, .string ⟨#[]⟩], .int .i64 11]) (by simp [results, Tryz.results6, go_sem, r0, r1, r2, fr]) rfl (ar_end noVa 11 CX.out _ _ _)
set_option maxRecDepth 100000 in
set_option maxHeartbeats 4000000 in
theorem rar_p_f (op : UInt8) (xn : Bool) (xv : Int) (xs : ByteArray) (yn : Bool) (yv : Int) (ys : ByteArray) (ka sa kb sb : Int) (w : World)  (s : Int) (h0 : arithTy op ⟨ka, sa⟩ ⟨kb, sb⟩ = some s) (h1 : fitsB ⟨ka, sa⟩ true ⟨xn, xv, xs⟩ = true) (h2 : fitsB ⟨kb, sb⟩ true ⟨yn, yv, ys⟩ = true) (hx : xn = false) (hy : yn = false) (hxv : I64 xv) (hyv : I64 yv) (h43 : (op == 43) = true) (p : Int) (hxs : scaleP xv sa s = (p, 0)) (q e2 : Int) (hys : scaleP yv sb s = (q, e2)) (he : e2 ≠ 0) : Calls Tryz.prog 6 #[.int .u8 (op.toNat : Int), .agg #[.bool xn, .int .i64 xv, .string xs], .agg #[.bool yn, .int .i64 yv, .string ys], .agg #[.int .i64 ka, .int .i64 sa], .agg #[.int .i64 kb, .int .i64 sb]] w (ArS w noVa 11) := by
  have HT0 := Lib.hid h0
  clear h0
  have H1 := Lib.hid h1
  clear h1
  have H2 := Lib.hid h2
  clear h2
  subst hx
  subst hy
  have HXV := Lib.hid hxv
  have HYV := Lib.hid hyv
  clear hxv hyv
  have e43 : ((op.toNat : Int) == 43) = true := by rw [show (43 : Int) = ((43 : Nat) : Int) from rfl, op_num op 43 (by decide)]; exact h43
  clear h43
  have HXS := Lib.hid hxs
  have HYS := Lib.hid hys
  clear hxs hys
  have ee : (e2 != 0) = true := bne_iff_ne.2 he
  clear he
  obtain ⟨hA0, hB0, hS0⟩ := args5_at w ⟨false, xv, xs⟩ ⟨false, yv, ys⟩ ⟨ka, sa⟩ ⟨kb, sb⟩
  have HA := Lib.hid hA0
  have CX := Lib.hid hB0
  clear hA0 hB0 hS0
  go_enter Tryz.func6, Tryz.ntmps6
  go_wp2_with fail
  refine (raty_any op ka sa kb sb _ _ HT0.out).mono ?_
  rintro e wA ⟨rfl, cA⟩
  have HA := Lib.hid (HA.out.later cA)
  have CX := Lib.hid (CX.out.trans (cA.mono CX.out.size))
  obtain ⟨K, hK⟩ : ∃ K, (typed s).kind = K := ⟨_, rfl⟩
  rw [hK, typed_scale]
  clear hK
  clear cA
  have hlt : w.heap.size + 1 + 1 + 1 + 1 < wA.heap.size := (Array.getElem?_eq_some_iff.1 HA.out.2.2.2.2).1
  have HT := Lib.hid (show (wA.alloc (.cells #[.int .i64 K, .int .i64 s] 25)).heap[wA.heap.size]? = some (tyO ⟨K, s⟩) from alloc_at _ _ _ rfl)
  have HA := Lib.hid (HA.out.later ((Below.refl _ _).alloc (Nat.le_refl _) (.cells #[.int .i64 K, .int .i64 s] 25)))
  have CX := Lib.hid (CX.out.alloc CX.out.size (.cells #[.int .i64 K, .int .i64 s] 25))
  obtain ⟨Tb, hTb⟩ : ∃ Tb, wA.heap.size = Tb := ⟨_, rfl⟩
  have HTL := Lib.hid (show w.heap.size + 1 + 1 + 1 + 1 < Tb by omega)
  go_upto_region 2 with fail
  obtain ⟨W1, hW1⟩ : ∃ W1, wA.alloc (.cells #[.int .i64 K, .int .i64 s] 25) = W1 := ⟨_, rfl⟩
  rw [hTb, hW1] at HT
  rw [hW1] at HA CX
  rw [hW1]
  (try rw [hTb])
  clear hTb hW1 hlt
  obtain ⟨x0, x1, x2, fx, y0, y1, y2, fy⟩ := HA.out.cellsX
  obtain ⟨a0, a1, b0, b1⟩ := HA.out.cellsT
  obtain ⟨r0, r1, r2, fr⟩ := HA.out.cellsR
  have t1 := cell_of_row W1 Tb 1 _ _ _ HT.out
  go_wp2_with fail
  refine (rfits_any ka sa true false xv xs _ _ H1.out).mono ?_
  rintro e w18 ⟨rfl, c18⟩
  have HA := Lib.hid (HA.out.later c18)
  have CX := Lib.hid (CX.out.trans (c18.mono CX.out.size))
  have HT := Lib.hid (tyO_later HT.out c18)
  clear c18 t1
  clear x0 x1 x2 fx y0 y1 y2 fy a0 a1 b0 b1 r0 r1 r2 fr
  obtain ⟨x0, x1, x2, fx, y0, y1, y2, fy⟩ := HA.out.cellsX
  obtain ⟨a0, a1, b0, b1⟩ := HA.out.cellsT
  obtain ⟨r0, r1, r2, fr⟩ := HA.out.cellsR
  have t1 := cell_of_row w18 Tb 1 _ _ _ HT.out
  go_wp2_with fail
  refine (rfits_any kb sb true false yv ys _ _ H2.out).mono ?_
  rintro e w19 ⟨rfl, c19⟩
  have HA := Lib.hid (HA.out.later c19)
  have CX := Lib.hid (CX.out.trans (c19.mono CX.out.size))
  have HT := Lib.hid (tyO_later HT.out c19)
  clear c19 t1
  clear x0 x1 x2 fx y0 y1 y2 fy a0 a1 b0 b1 r0 r1 r2 fr
  obtain ⟨x0, x1, x2, fx, y0, y1, y2, fy⟩ := HA.out.cellsX
  obtain ⟨a0, a1, b0, b1⟩ := HA.out.cellsT
  obtain ⟨r0, r1, r2, fr⟩ := HA.out.cellsR
  have t1 := cell_of_row w19 Tb 1 _ _ _ HT.out
  go_wp2_with fail
  refine (rscale_any xv sa s HXV.out _ _ _ HXS.out).mono ?_
  rintro e w' ⟨rfl, rfl⟩
  go_wp2_with fail
  refine (rscale_any yv sb s HYV.out _ _ _ HYS.out).mono ?_
  rintro e w' ⟨rfl, rfl⟩
  go_wp2_with fail
  exact bodyPost_ret (v := .tuple #[.agg #[.bool false, .int .i64 0, .string ⟨#[]⟩], .int .i64 11]) (by simp [results, Tryz.results6, go_sem, r0, r1, r2, fr]) rfl (ar_end noVa 11 CX.out _ _ _)
set_option maxRecDepth 100000 in
set_option maxHeartbeats 4000000 in
theorem rar_p_n (op : UInt8) (xn : Bool) (xv : Int) (xs : ByteArray) (yn : Bool) (yv : Int) (ys : ByteArray) (ka sa kb sb : Int) (w : World)  (s : Int) (h0 : arithTy op ⟨ka, sa⟩ ⟨kb, sb⟩ = some s) (h1 : fitsB ⟨ka, sa⟩ true ⟨xn, xv, xs⟩ = true) (h2 : fitsB ⟨kb, sb⟩ true ⟨yn, yv, ys⟩ = true) (hx : xn = false) (hy : yn = false) (hxv : I64 xv) (hyv : I64 yv) (h43 : (op == 43) = true) (p : Int) (hxs : scaleP xv sa s = (p, 0)) (q : Int) (hys : scaleP yv sb s = (q, 0)) (hp : I64 p) (hq : I64 q) (hr : reckonP op p q = none) : Calls Tryz.prog 6 #[.int .u8 (op.toNat : Int), .agg #[.bool xn, .int .i64 xv, .string xs], .agg #[.bool yn, .int .i64 yv, .string ys], .agg #[.int .i64 ka, .int .i64 sa], .agg #[.int .i64 kb, .int .i64 sb]] w (ArS w noVa 11) := by
  have HT0 := Lib.hid h0
  clear h0
  have H1 := Lib.hid h1
  clear h1
  have H2 := Lib.hid h2
  clear h2
  subst hx
  subst hy
  have HXV := Lib.hid hxv
  have HYV := Lib.hid hyv
  clear hxv hyv
  have e43 : ((op.toNat : Int) == 43) = true := by rw [show (43 : Int) = ((43 : Nat) : Int) from rfl, op_num op 43 (by decide)]; exact h43
  clear h43
  have HXS := Lib.hid hxs
  have HYS := Lib.hid hys
  clear hxs hys
  have HP := Lib.hid hp
  have HQ := Lib.hid hq
  have HR := Lib.hid hr
  clear hp hq hr
  obtain ⟨hA0, hB0, hS0⟩ := args5_at w ⟨false, xv, xs⟩ ⟨false, yv, ys⟩ ⟨ka, sa⟩ ⟨kb, sb⟩
  have HA := Lib.hid hA0
  have CX := Lib.hid hB0
  clear hA0 hB0 hS0
  go_enter Tryz.func6, Tryz.ntmps6
  go_wp2_with fail
  refine (raty_any op ka sa kb sb _ _ HT0.out).mono ?_
  rintro e wA ⟨rfl, cA⟩
  have HA := Lib.hid (HA.out.later cA)
  have CX := Lib.hid (CX.out.trans (cA.mono CX.out.size))
  obtain ⟨K, hK⟩ : ∃ K, (typed s).kind = K := ⟨_, rfl⟩
  rw [hK, typed_scale]
  clear hK
  clear cA
  have hlt : w.heap.size + 1 + 1 + 1 + 1 < wA.heap.size := (Array.getElem?_eq_some_iff.1 HA.out.2.2.2.2).1
  have HT := Lib.hid (show (wA.alloc (.cells #[.int .i64 K, .int .i64 s] 25)).heap[wA.heap.size]? = some (tyO ⟨K, s⟩) from alloc_at _ _ _ rfl)
  have HA := Lib.hid (HA.out.later ((Below.refl _ _).alloc (Nat.le_refl _) (.cells #[.int .i64 K, .int .i64 s] 25)))
  have CX := Lib.hid (CX.out.alloc CX.out.size (.cells #[.int .i64 K, .int .i64 s] 25))
  obtain ⟨Tb, hTb⟩ : ∃ Tb, wA.heap.size = Tb := ⟨_, rfl⟩
  have HTL := Lib.hid (show w.heap.size + 1 + 1 + 1 + 1 < Tb by omega)
  go_upto_region 2 with fail
  obtain ⟨W1, hW1⟩ : ∃ W1, wA.alloc (.cells #[.int .i64 K, .int .i64 s] 25) = W1 := ⟨_, rfl⟩
  rw [hTb, hW1] at HT
  rw [hW1] at HA CX
  rw [hW1]
  (try rw [hTb])
  clear hTb hW1 hlt
  obtain ⟨x0, x1, x2, fx, y0, y1, y2, fy⟩ := HA.out.cellsX
  obtain ⟨a0, a1, b0, b1⟩ := HA.out.cellsT
  obtain ⟨r0, r1, r2, fr⟩ := HA.out.cellsR
  have t1 := cell_of_row W1 Tb 1 _ _ _ HT.out
  go_wp2_with fail
  refine (rfits_any ka sa true false xv xs _ _ H1.out).mono ?_
  rintro e w20 ⟨rfl, c20⟩
  have HA := Lib.hid (HA.out.later c20)
  have CX := Lib.hid (CX.out.trans (c20.mono CX.out.size))
  have HT := Lib.hid (tyO_later HT.out c20)
  clear c20 t1
  clear x0 x1 x2 fx y0 y1 y2 fy a0 a1 b0 b1 r0 r1 r2 fr
  obtain ⟨x0, x1, x2, fx, y0, y1, y2, fy⟩ := HA.out.cellsX
  obtain ⟨a0, a1, b0, b1⟩ := HA.out.cellsT
  obtain ⟨r0, r1, r2, fr⟩ := HA.out.cellsR
  have t1 := cell_of_row w20 Tb 1 _ _ _ HT.out
  go_wp2_with fail
  refine (rfits_any kb sb true false yv ys _ _ H2.out).mono ?_
  rintro e w21 ⟨rfl, c21⟩
  have HA := Lib.hid (HA.out.later c21)
  have CX := Lib.hid (CX.out.trans (c21.mono CX.out.size))
  have HT := Lib.hid (tyO_later HT.out c21)
  clear c21 t1
  clear x0 x1 x2 fx y0 y1 y2 fy a0 a1 b0 b1 r0 r1 r2 fr
  obtain ⟨x0, x1, x2, fx, y0, y1, y2, fy⟩ := HA.out.cellsX
  obtain ⟨a0, a1, b0, b1⟩ := HA.out.cellsT
  obtain ⟨r0, r1, r2, fr⟩ := HA.out.cellsR
  have t1 := cell_of_row w21 Tb 1 _ _ _ HT.out
  go_wp2_with fail
  refine (rscale_any xv sa s HXV.out _ _ _ HXS.out).mono ?_
  rintro e w' ⟨rfl, rfl⟩
  go_wp2_with fail
  refine (rscale_any yv sb s HYV.out _ _ _ HYS.out).mono ?_
  rintro e w' ⟨rfl, rfl⟩
  go_wp2_with fail
  refine (rreckon_any op p q HP.out HQ.out _ _ HR.out).mono ?_
  rintro e w22 ⟨u, ok, rfl, hok, hu, c22⟩
  have HA := Lib.hid (HA.out.later c22)
  have CX := Lib.hid (CX.out.trans (c22.mono CX.out.size))
  clear c22 t1
  clear x0 x1 x2 fx y0 y1 y2 fy a0 a1 b0 b1 r0 r1 r2 fr
  obtain ⟨x0, x1, x2, fx, y0, y1, y2, fy⟩ := HA.out.cellsX
  obtain ⟨a0, a1, b0, b1⟩ := HA.out.cellsT
  obtain ⟨r0, r1, r2, fr⟩ := HA.out.cellsR
  obtain rfl : ok = false := hok
  clear hu
  go_wp2_with fail
  exact bodyPost_ret (v := .tuple #[.agg #[.bool false, .int .i64 0, .string ⟨#[]⟩], .int .i64 11]) (by simp [results, Tryz.results6, go_sem, r0, r1, r2, fr]) rfl (ar_end noVa 11 CX.out _ _ _)
set_option maxRecDepth 100000 in
set_option maxHeartbeats 4000000 in
theorem rar_p_y (op : UInt8) (xn : Bool) (xv : Int) (xs : ByteArray) (yn : Bool) (yv : Int) (ys : ByteArray) (ka sa kb sb : Int) (w : World)  (s : Int) (h0 : arithTy op ⟨ka, sa⟩ ⟨kb, sb⟩ = some s) (h1 : fitsB ⟨ka, sa⟩ true ⟨xn, xv, xs⟩ = true) (h2 : fitsB ⟨kb, sb⟩ true ⟨yn, yv, ys⟩ = true) (hx : xn = false) (hy : yn = false) (hxv : I64 xv) (hyv : I64 yv) (h43 : (op == 43) = true) (p : Int) (hxs : scaleP xv sa s = (p, 0)) (q : Int) (hys : scaleP yv sb s = (q, 0)) (hp : I64 p) (hq : I64 q) (z : Int) (hr : reckonP op p q = some z) : Calls Tryz.prog 6 #[.int .u8 (op.toNat : Int), .agg #[.bool xn, .int .i64 xv, .string xs], .agg #[.bool yn, .int .i64 yv, .string ys], .agg #[.int .i64 ka, .int .i64 sa], .agg #[.int .i64 kb, .int .i64 sb]] w (ArS w (numVa z) 0) := by
  have HT0 := Lib.hid h0
  clear h0
  have H1 := Lib.hid h1
  clear h1
  have H2 := Lib.hid h2
  clear h2
  subst hx
  subst hy
  have HXV := Lib.hid hxv
  have HYV := Lib.hid hyv
  clear hxv hyv
  have e43 : ((op.toNat : Int) == 43) = true := by rw [show (43 : Int) = ((43 : Nat) : Int) from rfl, op_num op 43 (by decide)]; exact h43
  clear h43
  have HXS := Lib.hid hxs
  have HYS := Lib.hid hys
  clear hxs hys
  have HP := Lib.hid hp
  have HQ := Lib.hid hq
  have HR := Lib.hid hr
  clear hp hq hr
  obtain ⟨hA0, hB0, hS0⟩ := args5_at w ⟨false, xv, xs⟩ ⟨false, yv, ys⟩ ⟨ka, sa⟩ ⟨kb, sb⟩
  have HA := Lib.hid hA0
  have CX := Lib.hid hB0
  clear hA0 hB0 hS0
  go_enter Tryz.func6, Tryz.ntmps6
  go_wp2_with fail
  refine (raty_any op ka sa kb sb _ _ HT0.out).mono ?_
  rintro e wA ⟨rfl, cA⟩
  have HA := Lib.hid (HA.out.later cA)
  have CX := Lib.hid (CX.out.trans (cA.mono CX.out.size))
  obtain ⟨K, hK⟩ : ∃ K, (typed s).kind = K := ⟨_, rfl⟩
  rw [hK, typed_scale]
  clear hK
  clear cA
  have hlt : w.heap.size + 1 + 1 + 1 + 1 < wA.heap.size := (Array.getElem?_eq_some_iff.1 HA.out.2.2.2.2).1
  have HT := Lib.hid (show (wA.alloc (.cells #[.int .i64 K, .int .i64 s] 25)).heap[wA.heap.size]? = some (tyO ⟨K, s⟩) from alloc_at _ _ _ rfl)
  have HA := Lib.hid (HA.out.later ((Below.refl _ _).alloc (Nat.le_refl _) (.cells #[.int .i64 K, .int .i64 s] 25)))
  have CX := Lib.hid (CX.out.alloc CX.out.size (.cells #[.int .i64 K, .int .i64 s] 25))
  obtain ⟨Tb, hTb⟩ : ∃ Tb, wA.heap.size = Tb := ⟨_, rfl⟩
  have HTL := Lib.hid (show w.heap.size + 1 + 1 + 1 + 1 < Tb by omega)
  go_upto_region 2 with fail
  obtain ⟨W1, hW1⟩ : ∃ W1, wA.alloc (.cells #[.int .i64 K, .int .i64 s] 25) = W1 := ⟨_, rfl⟩
  rw [hTb, hW1] at HT
  rw [hW1] at HA CX
  rw [hW1]
  (try rw [hTb])
  clear hTb hW1 hlt
  obtain ⟨x0, x1, x2, fx, y0, y1, y2, fy⟩ := HA.out.cellsX
  obtain ⟨a0, a1, b0, b1⟩ := HA.out.cellsT
  obtain ⟨r0, r1, r2, fr⟩ := HA.out.cellsR
  have t1 := cell_of_row W1 Tb 1 _ _ _ HT.out
  go_wp2_with fail
  refine (rfits_any ka sa true false xv xs _ _ H1.out).mono ?_
  rintro e w23 ⟨rfl, c23⟩
  have HA := Lib.hid (HA.out.later c23)
  have CX := Lib.hid (CX.out.trans (c23.mono CX.out.size))
  have HT := Lib.hid (tyO_later HT.out c23)
  clear c23 t1
  clear x0 x1 x2 fx y0 y1 y2 fy a0 a1 b0 b1 r0 r1 r2 fr
  obtain ⟨x0, x1, x2, fx, y0, y1, y2, fy⟩ := HA.out.cellsX
  obtain ⟨a0, a1, b0, b1⟩ := HA.out.cellsT
  obtain ⟨r0, r1, r2, fr⟩ := HA.out.cellsR
  have t1 := cell_of_row w23 Tb 1 _ _ _ HT.out
  go_wp2_with fail
  refine (rfits_any kb sb true false yv ys _ _ H2.out).mono ?_
  rintro e w24 ⟨rfl, c24⟩
  have HA := Lib.hid (HA.out.later c24)
  have CX := Lib.hid (CX.out.trans (c24.mono CX.out.size))
  have HT := Lib.hid (tyO_later HT.out c24)
  clear c24 t1
  clear x0 x1 x2 fx y0 y1 y2 fy a0 a1 b0 b1 r0 r1 r2 fr
  obtain ⟨x0, x1, x2, fx, y0, y1, y2, fy⟩ := HA.out.cellsX
  obtain ⟨a0, a1, b0, b1⟩ := HA.out.cellsT
  obtain ⟨r0, r1, r2, fr⟩ := HA.out.cellsR
  have t1 := cell_of_row w24 Tb 1 _ _ _ HT.out
  go_wp2_with fail
  refine (rscale_any xv sa s HXV.out _ _ _ HXS.out).mono ?_
  rintro e w' ⟨rfl, rfl⟩
  go_wp2_with fail
  refine (rscale_any yv sb s HYV.out _ _ _ HYS.out).mono ?_
  rintro e w' ⟨rfl, rfl⟩
  go_wp2_with fail
  refine (rreckon_any op p q HP.out HQ.out _ _ HR.out).mono ?_
  rintro e w25 ⟨u, ok, rfl, hok, hu, c25⟩
  have HA := Lib.hid (HA.out.later c25)
  have CX := Lib.hid (CX.out.trans (c25.mono CX.out.size))
  clear c25 t1
  clear x0 x1 x2 fx y0 y1 y2 fy a0 a1 b0 b1 r0 r1 r2 fr
  obtain ⟨x0, x1, x2, fx, y0, y1, y2, fy⟩ := HA.out.cellsX
  obtain ⟨a0, a1, b0, b1⟩ := HA.out.cellsT
  obtain ⟨r0, r1, r2, fr⟩ := HA.out.cellsR
  obtain rfl : ok = true := hok
  obtain rfl : u = z := hu z rfl
  clear hu
  go_wp2_with fail
  exact bodyPost_ret (v := .tuple #[.agg #[.bool false, .int .i64 u, .string ⟨#[]⟩], .int .i64 0]) (by simp [results, Tryz.results6, go_sem, r0, r1, r2, fr]) rfl (ar_end (numVa u) 0 CX.out _ _ _)
set_option maxRecDepth 100000 in
set_option maxHeartbeats 4000000 in
theorem rar_m_e (op : UInt8) (xn : Bool) (xv : Int) (xs : ByteArray) (yn : Bool) (yv : Int) (ys : ByteArray) (ka sa kb sb : Int) (w : World)  (s : Int) (h0 : arithTy op ⟨ka, sa⟩ ⟨kb, sb⟩ = some s) (h1 : fitsB ⟨ka, sa⟩ true ⟨xn, xv, xs⟩ = true) (h2 : fitsB ⟨kb, sb⟩ true ⟨yn, yv, ys⟩ = true) (hx : xn = false) (hy : yn = false) (hxv : I64 xv) (hyv : I64 yv) (h43 : (op == 43) = false) (h45 : (op == 45) = true) (p e1 : Int) (hxs : scaleP xv sa s = (p, e1)) (q e2 : Int) (hys : scaleP yv sb s = (q, e2)) (he : e1 ≠ 0) : Calls Tryz.prog 6 #[.int .u8 (op.toNat : Int), .agg #[.bool xn, .int .i64 xv, .string xs], .agg #[.bool yn, .int .i64 yv, .string ys], .agg #[.int .i64 ka, .int .i64 sa], .agg #[.int .i64 kb, .int .i64 sb]] w (ArS w noVa 11) := by
  have HT0 := Lib.hid h0
  clear h0
  have H1 := Lib.hid h1
  clear h1
  have H2 := Lib.hid h2
  clear h2
  subst hx
  subst hy
  have HXV := Lib.hid hxv
  have HYV := Lib.hid hyv
  clear hxv hyv
  have e43 : ((op.toNat : Int) == 43) = false := by rw [show (43 : Int) = ((43 : Nat) : Int) from rfl, op_num op 43 (by decide)]; exact h43
  have e45 : ((op.toNat : Int) == 45) = true := by rw [show (45 : Int) = ((45 : Nat) : Int) from rfl, op_num op 45 (by decide)]; exact h45
  clear h43 h45
  have HXS := Lib.hid hxs
  have HYS := Lib.hid hys
  clear hxs hys
  have ee : (e1 != 0) = true := bne_iff_ne.2 he
  clear he
  obtain ⟨hA0, hB0, hS0⟩ := args5_at w ⟨false, xv, xs⟩ ⟨false, yv, ys⟩ ⟨ka, sa⟩ ⟨kb, sb⟩
  have HA := Lib.hid hA0
  have CX := Lib.hid hB0
  clear hA0 hB0 hS0
  go_enter Tryz.func6, Tryz.ntmps6
  go_wp2_with fail
  refine (raty_any op ka sa kb sb _ _ HT0.out).mono ?_
  rintro e wA ⟨rfl, cA⟩
  have HA := Lib.hid (HA.out.later cA)
  have CX := Lib.hid (CX.out.trans (cA.mono CX.out.size))
  obtain ⟨K, hK⟩ : ∃ K, (typed s).kind = K := ⟨_, rfl⟩
  rw [hK, typed_scale]
  clear hK
  clear cA
  have hlt : w.heap.size + 1 + 1 + 1 + 1 < wA.heap.size := (Array.getElem?_eq_some_iff.1 HA.out.2.2.2.2).1
  have HT := Lib.hid (show (wA.alloc (.cells #[.int .i64 K, .int .i64 s] 25)).heap[wA.heap.size]? = some (tyO ⟨K, s⟩) from alloc_at _ _ _ rfl)
  have HA := Lib.hid (HA.out.later ((Below.refl _ _).alloc (Nat.le_refl _) (.cells #[.int .i64 K, .int .i64 s] 25)))
  have CX := Lib.hid (CX.out.alloc CX.out.size (.cells #[.int .i64 K, .int .i64 s] 25))
  obtain ⟨Tb, hTb⟩ : ∃ Tb, wA.heap.size = Tb := ⟨_, rfl⟩
  have HTL := Lib.hid (show w.heap.size + 1 + 1 + 1 + 1 < Tb by omega)
  go_upto_region 2 with fail
  obtain ⟨W1, hW1⟩ : ∃ W1, wA.alloc (.cells #[.int .i64 K, .int .i64 s] 25) = W1 := ⟨_, rfl⟩
  rw [hTb, hW1] at HT
  rw [hW1] at HA CX
  rw [hW1]
  (try rw [hTb])
  clear hTb hW1 hlt
  obtain ⟨x0, x1, x2, fx, y0, y1, y2, fy⟩ := HA.out.cellsX
  obtain ⟨a0, a1, b0, b1⟩ := HA.out.cellsT
  obtain ⟨r0, r1, r2, fr⟩ := HA.out.cellsR
  have t1 := cell_of_row W1 Tb 1 _ _ _ HT.out
  go_wp2_with fail
  refine (rfits_any ka sa true false xv xs _ _ H1.out).mono ?_
  rintro e w28 ⟨rfl, c28⟩
  have HA := Lib.hid (HA.out.later c28)
  have CX := Lib.hid (CX.out.trans (c28.mono CX.out.size))
  have HT := Lib.hid (tyO_later HT.out c28)
  clear c28 t1
  clear x0 x1 x2 fx y0 y1 y2 fy a0 a1 b0 b1 r0 r1 r2 fr
  obtain ⟨x0, x1, x2, fx, y0, y1, y2, fy⟩ := HA.out.cellsX
  obtain ⟨a0, a1, b0, b1⟩ := HA.out.cellsT
  obtain ⟨r0, r1, r2, fr⟩ := HA.out.cellsR
  have t1 := cell_of_row w28 Tb 1 _ _ _ HT.out
  go_wp2_with fail
  refine (rfits_any kb sb true false yv ys _ _ H2.out).mono ?_
  rintro e w29 ⟨rfl, c29⟩
  have HA := Lib.hid (HA.out.later c29)
  have CX := Lib.hid (CX.out.trans (c29.mono CX.out.size))
  have HT := Lib.hid (tyO_later HT.out c29)
  clear c29 t1
  clear x0 x1 x2 fx y0 y1 y2 fy a0 a1 b0 b1 r0 r1 r2 fr
  obtain ⟨x0, x1, x2, fx, y0, y1, y2, fy⟩ := HA.out.cellsX
  obtain ⟨a0, a1, b0, b1⟩ := HA.out.cellsT
  obtain ⟨r0, r1, r2, fr⟩ := HA.out.cellsR
  have t1 := cell_of_row w29 Tb 1 _ _ _ HT.out
  go_wp2_with fail
  refine (rscale_any xv sa s HXV.out _ _ _ HXS.out).mono ?_
  rintro e w' ⟨rfl, rfl⟩
  go_wp2_with fail
  refine (rscale_any yv sb s HYV.out _ _ _ HYS.out).mono ?_
  rintro e w' ⟨rfl, rfl⟩
  go_wp2_with fail
  exact bodyPost_ret (v := .tuple #[.agg #[.bool false, .int .i64 0, .string ⟨#[]⟩], .int .i64 11]) (by simp [results, Tryz.results6, go_sem, r0, r1, r2, fr]) rfl (ar_end noVa 11 CX.out _ _ _)
set_option maxRecDepth 100000 in
set_option maxHeartbeats 4000000 in
theorem rar_m_f (op : UInt8) (xn : Bool) (xv : Int) (xs : ByteArray) (yn : Bool) (yv : Int) (ys : ByteArray) (ka sa kb sb : Int) (w : World)  (s : Int) (h0 : arithTy op ⟨ka, sa⟩ ⟨kb, sb⟩ = some s) (h1 : fitsB ⟨ka, sa⟩ true ⟨xn, xv, xs⟩ = true) (h2 : fitsB ⟨kb, sb⟩ true ⟨yn, yv, ys⟩ = true) (hx : xn = false) (hy : yn = false) (hxv : I64 xv) (hyv : I64 yv) (h43 : (op == 43) = false) (h45 : (op == 45) = true) (p : Int) (hxs : scaleP xv sa s = (p, 0)) (q e2 : Int) (hys : scaleP yv sb s = (q, e2)) (he : e2 ≠ 0) : Calls Tryz.prog 6 #[.int .u8 (op.toNat : Int), .agg #[.bool xn, .int .i64 xv, .string xs], .agg #[.bool yn, .int .i64 yv, .string ys], .agg #[.int .i64 ka, .int .i64 sa], .agg #[.int .i64 kb, .int .i64 sb]] w (ArS w noVa 11) := by
  have HT0 := Lib.hid h0
  clear h0
  have H1 := Lib.hid h1
  clear h1
  have H2 := Lib.hid h2
  clear h2
  subst hx
  subst hy
  have HXV := Lib.hid hxv
  have HYV := Lib.hid hyv
  clear hxv hyv
  have e43 : ((op.toNat : Int) == 43) = false := by rw [show (43 : Int) = ((43 : Nat) : Int) from rfl, op_num op 43 (by decide)]; exact h43
  have e45 : ((op.toNat : Int) == 45) = true := by rw [show (45 : Int) = ((45 : Nat) : Int) from rfl, op_num op 45 (by decide)]; exact h45
  clear h43 h45
  have HXS := Lib.hid hxs
  have HYS := Lib.hid hys
  clear hxs hys
  have ee : (e2 != 0) = true := bne_iff_ne.2 he
  clear he
  obtain ⟨hA0, hB0, hS0⟩ := args5_at w ⟨false, xv, xs⟩ ⟨false, yv, ys⟩ ⟨ka, sa⟩ ⟨kb, sb⟩
  have HA := Lib.hid hA0
  have CX := Lib.hid hB0
  clear hA0 hB0 hS0
  go_enter Tryz.func6, Tryz.ntmps6
  go_wp2_with fail
  refine (raty_any op ka sa kb sb _ _ HT0.out).mono ?_
  rintro e wA ⟨rfl, cA⟩
  have HA := Lib.hid (HA.out.later cA)
  have CX := Lib.hid (CX.out.trans (cA.mono CX.out.size))
  obtain ⟨K, hK⟩ : ∃ K, (typed s).kind = K := ⟨_, rfl⟩
  rw [hK, typed_scale]
  clear hK
  clear cA
  have hlt : w.heap.size + 1 + 1 + 1 + 1 < wA.heap.size := (Array.getElem?_eq_some_iff.1 HA.out.2.2.2.2).1
  have HT := Lib.hid (show (wA.alloc (.cells #[.int .i64 K, .int .i64 s] 25)).heap[wA.heap.size]? = some (tyO ⟨K, s⟩) from alloc_at _ _ _ rfl)
  have HA := Lib.hid (HA.out.later ((Below.refl _ _).alloc (Nat.le_refl _) (.cells #[.int .i64 K, .int .i64 s] 25)))
  have CX := Lib.hid (CX.out.alloc CX.out.size (.cells #[.int .i64 K, .int .i64 s] 25))
  obtain ⟨Tb, hTb⟩ : ∃ Tb, wA.heap.size = Tb := ⟨_, rfl⟩
  have HTL := Lib.hid (show w.heap.size + 1 + 1 + 1 + 1 < Tb by omega)
  go_upto_region 2 with fail
  obtain ⟨W1, hW1⟩ : ∃ W1, wA.alloc (.cells #[.int .i64 K, .int .i64 s] 25) = W1 := ⟨_, rfl⟩
  rw [hTb, hW1] at HT
  rw [hW1] at HA CX
  rw [hW1]
  (try rw [hTb])
  clear hTb hW1 hlt
  obtain ⟨x0, x1, x2, fx, y0, y1, y2, fy⟩ := HA.out.cellsX
  obtain ⟨a0, a1, b0, b1⟩ := HA.out.cellsT
  obtain ⟨r0, r1, r2, fr⟩ := HA.out.cellsR
  have t1 := cell_of_row W1 Tb 1 _ _ _ HT.out
  go_wp2_with fail
  refine (rfits_any ka sa true false xv xs _ _ H1.out).mono ?_
  rintro e w30 ⟨rfl, c30⟩
  have HA := Lib.hid (HA.out.later c30)
  have CX := Lib.hid (CX.out.trans (c30.mono CX.out.size))
  have HT := Lib.hid (tyO_later HT.out c30)
  clear c30 t1
  clear x0 x1 x2 fx y0 y1 y2 fy a0 a1 b0 b1 r0 r1 r2 fr
  obtain ⟨x0, x1, x2, fx, y0, y1, y2, fy⟩ := HA.out.cellsX
  obtain ⟨a0, a1, b0, b1⟩ := HA.out.cellsT
  obtain ⟨r0, r1, r2, fr⟩ := HA.out.cellsR
  have t1 := cell_of_row w30 Tb 1 _ _ _ HT.out
  go_wp2_with fail
  refine (rfits_any kb sb true false yv ys _ _ H2.out).mono ?_
  rintro e w31 ⟨rfl, c31⟩
  have HA := Lib.hid (HA.out.later c31)
  have CX := Lib.hid (CX.out.trans (c31.mono CX.out.size))
  have HT := Lib.hid (tyO_later HT.out c31)
  clear c31 t1
  clear x0 x1 x2 fx y0 y1 y2 fy a0 a1 b0 b1 r0 r1 r2 fr
  obtain ⟨x0, x1, x2, fx, y0, y1, y2, fy⟩ := HA.out.cellsX
  obtain ⟨a0, a1, b0, b1⟩ := HA.out.cellsT
  obtain ⟨r0, r1, r2, fr⟩ := HA.out.cellsR
  have t1 := cell_of_row w31 Tb 1 _ _ _ HT.out
  go_wp2_with fail
  refine (rscale_any xv sa s HXV.out _ _ _ HXS.out).mono ?_
  rintro e w' ⟨rfl, rfl⟩
  go_wp2_with fail
  refine (rscale_any yv sb s HYV.out _ _ _ HYS.out).mono ?_
  rintro e w' ⟨rfl, rfl⟩
  go_wp2_with fail
  exact bodyPost_ret (v := .tuple #[.agg #[.bool false, .int .i64 0, .string ⟨#[]⟩], .int .i64 11]) (by simp [results, Tryz.results6, go_sem, r0, r1, r2, fr]) rfl (ar_end noVa 11 CX.out _ _ _)
set_option maxRecDepth 100000 in
set_option maxHeartbeats 4000000 in
theorem rar_m_n (op : UInt8) (xn : Bool) (xv : Int) (xs : ByteArray) (yn : Bool) (yv : Int) (ys : ByteArray) (ka sa kb sb : Int) (w : World)  (s : Int) (h0 : arithTy op ⟨ka, sa⟩ ⟨kb, sb⟩ = some s) (h1 : fitsB ⟨ka, sa⟩ true ⟨xn, xv, xs⟩ = true) (h2 : fitsB ⟨kb, sb⟩ true ⟨yn, yv, ys⟩ = true) (hx : xn = false) (hy : yn = false) (hxv : I64 xv) (hyv : I64 yv) (h43 : (op == 43) = false) (h45 : (op == 45) = true) (p : Int) (hxs : scaleP xv sa s = (p, 0)) (q : Int) (hys : scaleP yv sb s = (q, 0)) (hp : I64 p) (hq : I64 q) (hr : reckonP op p q = none) : Calls Tryz.prog 6 #[.int .u8 (op.toNat : Int), .agg #[.bool xn, .int .i64 xv, .string xs], .agg #[.bool yn, .int .i64 yv, .string ys], .agg #[.int .i64 ka, .int .i64 sa], .agg #[.int .i64 kb, .int .i64 sb]] w (ArS w noVa 11) := by
  have HT0 := Lib.hid h0
  clear h0
  have H1 := Lib.hid h1
  clear h1
  have H2 := Lib.hid h2
  clear h2
  subst hx
  subst hy
  have HXV := Lib.hid hxv
  have HYV := Lib.hid hyv
  clear hxv hyv
  have e43 : ((op.toNat : Int) == 43) = false := by rw [show (43 : Int) = ((43 : Nat) : Int) from rfl, op_num op 43 (by decide)]; exact h43
  have e45 : ((op.toNat : Int) == 45) = true := by rw [show (45 : Int) = ((45 : Nat) : Int) from rfl, op_num op 45 (by decide)]; exact h45
  clear h43 h45
  have HXS := Lib.hid hxs
  have HYS := Lib.hid hys
  clear hxs hys
  have HP := Lib.hid hp
  have HQ := Lib.hid hq
  have HR := Lib.hid hr
  clear hp hq hr
  obtain ⟨hA0, hB0, hS0⟩ := args5_at w ⟨false, xv, xs⟩ ⟨false, yv, ys⟩ ⟨ka, sa⟩ ⟨kb, sb⟩
  have HA := Lib.hid hA0
  have CX := Lib.hid hB0
  clear hA0 hB0 hS0
  go_enter Tryz.func6, Tryz.ntmps6
  go_wp2_with fail
  refine (raty_any op ka sa kb sb _ _ HT0.out).mono ?_
  rintro e wA ⟨rfl, cA⟩
  have HA := Lib.hid (HA.out.later cA)
  have CX := Lib.hid (CX.out.trans (cA.mono CX.out.size))
  obtain ⟨K, hK⟩ : ∃ K, (typed s).kind = K := ⟨_, rfl⟩
  rw [hK, typed_scale]
  clear hK
  clear cA
  have hlt : w.heap.size + 1 + 1 + 1 + 1 < wA.heap.size := (Array.getElem?_eq_some_iff.1 HA.out.2.2.2.2).1
  have HT := Lib.hid (show (wA.alloc (.cells #[.int .i64 K, .int .i64 s] 25)).heap[wA.heap.size]? = some (tyO ⟨K, s⟩) from alloc_at _ _ _ rfl)
  have HA := Lib.hid (HA.out.later ((Below.refl _ _).alloc (Nat.le_refl _) (.cells #[.int .i64 K, .int .i64 s] 25)))
  have CX := Lib.hid (CX.out.alloc CX.out.size (.cells #[.int .i64 K, .int .i64 s] 25))
  obtain ⟨Tb, hTb⟩ : ∃ Tb, wA.heap.size = Tb := ⟨_, rfl⟩
  have HTL := Lib.hid (show w.heap.size + 1 + 1 + 1 + 1 < Tb by omega)
  go_upto_region 2 with fail
  obtain ⟨W1, hW1⟩ : ∃ W1, wA.alloc (.cells #[.int .i64 K, .int .i64 s] 25) = W1 := ⟨_, rfl⟩
  rw [hTb, hW1] at HT
  rw [hW1] at HA CX
  rw [hW1]
  (try rw [hTb])
  clear hTb hW1 hlt
  obtain ⟨x0, x1, x2, fx, y0, y1, y2, fy⟩ := HA.out.cellsX
  obtain ⟨a0, a1, b0, b1⟩ := HA.out.cellsT
  obtain ⟨r0, r1, r2, fr⟩ := HA.out.cellsR
  have t1 := cell_of_row W1 Tb 1 _ _ _ HT.out
  go_wp2_with fail
  refine (rfits_any ka sa true false xv xs _ _ H1.out).mono ?_
  rintro e w32 ⟨rfl, c32⟩
  have HA := Lib.hid (HA.out.later c32)
  have CX := Lib.hid (CX.out.trans (c32.mono CX.out.size))
  have HT := Lib.hid (tyO_later HT.out c32)
  clear c32 t1
  clear x0 x1 x2 fx y0 y1 y2 fy a0 a1 b0 b1 r0 r1 r2 fr
  obtain ⟨x0, x1, x2, fx, y0, y1, y2, fy⟩ := HA.out.cellsX
  obtain ⟨a0, a1, b0, b1⟩ := HA.out.cellsT
  obtain ⟨r0, r1, r2, fr⟩ := HA.out.cellsR
  have t1 := cell_of_row w32 Tb 1 _ _ _ HT.out
  go_wp2_with fail
  refine (rfits_any kb sb true false yv ys _ _ H2.out).mono ?_
  rintro e w33 ⟨rfl, c33⟩
  have HA := Lib.hid (HA.out.later c33)
  have CX := Lib.hid (CX.out.trans (c33.mono CX.out.size))
  have HT := Lib.hid (tyO_later HT.out c33)
  clear c33 t1
  clear x0 x1 x2 fx y0 y1 y2 fy a0 a1 b0 b1 r0 r1 r2 fr
  obtain ⟨x0, x1, x2, fx, y0, y1, y2, fy⟩ := HA.out.cellsX
  obtain ⟨a0, a1, b0, b1⟩ := HA.out.cellsT
  obtain ⟨r0, r1, r2, fr⟩ := HA.out.cellsR
  have t1 := cell_of_row w33 Tb 1 _ _ _ HT.out
  go_wp2_with fail
  refine (rscale_any xv sa s HXV.out _ _ _ HXS.out).mono ?_
  rintro e w' ⟨rfl, rfl⟩
  go_wp2_with fail
  refine (rscale_any yv sb s HYV.out _ _ _ HYS.out).mono ?_
  rintro e w' ⟨rfl, rfl⟩
  go_wp2_with fail
  refine (rreckon_any op p q HP.out HQ.out _ _ HR.out).mono ?_
  rintro e w34 ⟨u, ok, rfl, hok, hu, c34⟩
  have HA := Lib.hid (HA.out.later c34)
  have CX := Lib.hid (CX.out.trans (c34.mono CX.out.size))
  clear c34 t1
  clear x0 x1 x2 fx y0 y1 y2 fy a0 a1 b0 b1 r0 r1 r2 fr
  obtain ⟨x0, x1, x2, fx, y0, y1, y2, fy⟩ := HA.out.cellsX
  obtain ⟨a0, a1, b0, b1⟩ := HA.out.cellsT
  obtain ⟨r0, r1, r2, fr⟩ := HA.out.cellsR
  obtain rfl : ok = false := hok
  clear hu
  go_wp2_with fail
  exact bodyPost_ret (v := .tuple #[.agg #[.bool false, .int .i64 0, .string ⟨#[]⟩], .int .i64 11]) (by simp [results, Tryz.results6, go_sem, r0, r1, r2, fr]) rfl (ar_end noVa 11 CX.out _ _ _)
set_option maxRecDepth 100000 in
set_option maxHeartbeats 4000000 in
theorem rar_m_y (op : UInt8) (xn : Bool) (xv : Int) (xs : ByteArray) (yn : Bool) (yv : Int) (ys : ByteArray) (ka sa kb sb : Int) (w : World)  (s : Int) (h0 : arithTy op ⟨ka, sa⟩ ⟨kb, sb⟩ = some s) (h1 : fitsB ⟨ka, sa⟩ true ⟨xn, xv, xs⟩ = true) (h2 : fitsB ⟨kb, sb⟩ true ⟨yn, yv, ys⟩ = true) (hx : xn = false) (hy : yn = false) (hxv : I64 xv) (hyv : I64 yv) (h43 : (op == 43) = false) (h45 : (op == 45) = true) (p : Int) (hxs : scaleP xv sa s = (p, 0)) (q : Int) (hys : scaleP yv sb s = (q, 0)) (hp : I64 p) (hq : I64 q) (z : Int) (hr : reckonP op p q = some z) : Calls Tryz.prog 6 #[.int .u8 (op.toNat : Int), .agg #[.bool xn, .int .i64 xv, .string xs], .agg #[.bool yn, .int .i64 yv, .string ys], .agg #[.int .i64 ka, .int .i64 sa], .agg #[.int .i64 kb, .int .i64 sb]] w (ArS w (numVa z) 0) := by
  have HT0 := Lib.hid h0
  clear h0
  have H1 := Lib.hid h1
  clear h1
  have H2 := Lib.hid h2
  clear h2
  subst hx
  subst hy
  have HXV := Lib.hid hxv
  have HYV := Lib.hid hyv
  clear hxv hyv
  have e43 : ((op.toNat : Int) == 43) = false := by rw [show (43 : Int) = ((43 : Nat) : Int) from rfl, op_num op 43 (by decide)]; exact h43
  have e45 : ((op.toNat : Int) == 45) = true := by rw [show (45 : Int) = ((45 : Nat) : Int) from rfl, op_num op 45 (by decide)]; exact h45
  clear h43 h45
  have HXS := Lib.hid hxs
  have HYS := Lib.hid hys
  clear hxs hys
  have HP := Lib.hid hp
  have HQ := Lib.hid hq
  have HR := Lib.hid hr
  clear hp hq hr
  obtain ⟨hA0, hB0, hS0⟩ := args5_at w ⟨false, xv, xs⟩ ⟨false, yv, ys⟩ ⟨ka, sa⟩ ⟨kb, sb⟩
  have HA := Lib.hid hA0
  have CX := Lib.hid hB0
  clear hA0 hB0 hS0
  go_enter Tryz.func6, Tryz.ntmps6
  go_wp2_with fail
  refine (raty_any op ka sa kb sb _ _ HT0.out).mono ?_
  rintro e wA ⟨rfl, cA⟩
  have HA := Lib.hid (HA.out.later cA)
  have CX := Lib.hid (CX.out.trans (cA.mono CX.out.size))
  obtain ⟨K, hK⟩ : ∃ K, (typed s).kind = K := ⟨_, rfl⟩
  rw [hK, typed_scale]
  clear hK
  clear cA
  have hlt : w.heap.size + 1 + 1 + 1 + 1 < wA.heap.size := (Array.getElem?_eq_some_iff.1 HA.out.2.2.2.2).1
  have HT := Lib.hid (show (wA.alloc (.cells #[.int .i64 K, .int .i64 s] 25)).heap[wA.heap.size]? = some (tyO ⟨K, s⟩) from alloc_at _ _ _ rfl)
  have HA := Lib.hid (HA.out.later ((Below.refl _ _).alloc (Nat.le_refl _) (.cells #[.int .i64 K, .int .i64 s] 25)))
  have CX := Lib.hid (CX.out.alloc CX.out.size (.cells #[.int .i64 K, .int .i64 s] 25))
  obtain ⟨Tb, hTb⟩ : ∃ Tb, wA.heap.size = Tb := ⟨_, rfl⟩
  have HTL := Lib.hid (show w.heap.size + 1 + 1 + 1 + 1 < Tb by omega)
  go_upto_region 2 with fail
  obtain ⟨W1, hW1⟩ : ∃ W1, wA.alloc (.cells #[.int .i64 K, .int .i64 s] 25) = W1 := ⟨_, rfl⟩
  rw [hTb, hW1] at HT
  rw [hW1] at HA CX
  rw [hW1]
  (try rw [hTb])
  clear hTb hW1 hlt
  obtain ⟨x0, x1, x2, fx, y0, y1, y2, fy⟩ := HA.out.cellsX
  obtain ⟨a0, a1, b0, b1⟩ := HA.out.cellsT
  obtain ⟨r0, r1, r2, fr⟩ := HA.out.cellsR
  have t1 := cell_of_row W1 Tb 1 _ _ _ HT.out
  go_wp2_with fail
  refine (rfits_any ka sa true false xv xs _ _ H1.out).mono ?_
  rintro e w35 ⟨rfl, c35⟩
  have HA := Lib.hid (HA.out.later c35)
  have CX := Lib.hid (CX.out.trans (c35.mono CX.out.size))
  have HT := Lib.hid (tyO_later HT.out c35)
  clear c35 t1
  clear x0 x1 x2 fx y0 y1 y2 fy a0 a1 b0 b1 r0 r1 r2 fr
  obtain ⟨x0, x1, x2, fx, y0, y1, y2, fy⟩ := HA.out.cellsX
  obtain ⟨a0, a1, b0, b1⟩ := HA.out.cellsT
  obtain ⟨r0, r1, r2, fr⟩ := HA.out.cellsR
  have t1 := cell_of_row w35 Tb 1 _ _ _ HT.out
  go_wp2_with fail
  refine (rfits_any kb sb true false yv ys _ _ H2.out).mono ?_
  rintro e w36 ⟨rfl, c36⟩
  have HA := Lib.hid (HA.out.later c36)
  have CX := Lib.hid (CX.out.trans (c36.mono CX.out.size))
  have HT := Lib.hid (tyO_later HT.out c36)
  clear c36 t1
  clear x0 x1 x2 fx y0 y1 y2 fy a0 a1 b0 b1 r0 r1 r2 fr
  obtain ⟨x0, x1, x2, fx, y0, y1, y2, fy⟩ := HA.out.cellsX
  obtain ⟨a0, a1, b0, b1⟩ := HA.out.cellsT
  obtain ⟨r0, r1, r2, fr⟩ := HA.out.cellsR
  have t1 := cell_of_row w36 Tb 1 _ _ _ HT.out
  go_wp2_with fail
  refine (rscale_any xv sa s HXV.out _ _ _ HXS.out).mono ?_
  rintro e w' ⟨rfl, rfl⟩
  go_wp2_with fail
  refine (rscale_any yv sb s HYV.out _ _ _ HYS.out).mono ?_
  rintro e w' ⟨rfl, rfl⟩
  go_wp2_with fail
  refine (rreckon_any op p q HP.out HQ.out _ _ HR.out).mono ?_
  rintro e w37 ⟨u, ok, rfl, hok, hu, c37⟩
  have HA := Lib.hid (HA.out.later c37)
  have CX := Lib.hid (CX.out.trans (c37.mono CX.out.size))
  clear c37 t1
  clear x0 x1 x2 fx y0 y1 y2 fy a0 a1 b0 b1 r0 r1 r2 fr
  obtain ⟨x0, x1, x2, fx, y0, y1, y2, fy⟩ := HA.out.cellsX
  obtain ⟨a0, a1, b0, b1⟩ := HA.out.cellsT
  obtain ⟨r0, r1, r2, fr⟩ := HA.out.cellsR
  obtain rfl : ok = true := hok
  obtain rfl : u = z := hu z rfl
  clear hu
  go_wp2_with fail
  exact bodyPost_ret (v := .tuple #[.agg #[.bool false, .int .i64 u, .string ⟨#[]⟩], .int .i64 0]) (by simp [results, Tryz.results6, go_sem, r0, r1, r2, fr]) rfl (ar_end (numVa u) 0 CX.out _ _ _)
set_option maxRecDepth 100000 in
set_option maxHeartbeats 4000000 in
theorem rar_o_n (op : UInt8) (xn : Bool) (xv : Int) (xs : ByteArray) (yn : Bool) (yv : Int) (ys : ByteArray) (ka sa kb sb : Int) (w : World)  (s : Int) (h0 : arithTy op ⟨ka, sa⟩ ⟨kb, sb⟩ = some s) (h1 : fitsB ⟨ka, sa⟩ true ⟨xn, xv, xs⟩ = true) (h2 : fitsB ⟨kb, sb⟩ true ⟨yn, yv, ys⟩ = true) (hx : xn = false) (hy : yn = false) (hxv : I64 xv) (hyv : I64 yv) (h43 : (op == 43) = false) (h45 : (op == 45) = false) (hr : reckonP op xv yv = none) : Calls Tryz.prog 6 #[.int .u8 (op.toNat : Int), .agg #[.bool xn, .int .i64 xv, .string xs], .agg #[.bool yn, .int .i64 yv, .string ys], .agg #[.int .i64 ka, .int .i64 sa], .agg #[.int .i64 kb, .int .i64 sb]] w (ArS w noVa 11) := by
  have HT0 := Lib.hid h0
  clear h0
  have H1 := Lib.hid h1
  clear h1
  have H2 := Lib.hid h2
  clear h2
  subst hx
  subst hy
  have e43 : ((op.toNat : Int) == 43) = false := by rw [show (43 : Int) = ((43 : Nat) : Int) from rfl, op_num op 43 (by decide)]; exact h43
  have e45 : ((op.toNat : Int) == 45) = false := by rw [show (45 : Int) = ((45 : Nat) : Int) from rfl, op_num op 45 (by decide)]; exact h45
  clear h43 h45
  have HP := Lib.hid hxv
  have HQ := Lib.hid hyv
  have HR := Lib.hid hr
  clear hxv hyv hr
  obtain ⟨hA0, hB0, hS0⟩ := args5_at w ⟨false, xv, xs⟩ ⟨false, yv, ys⟩ ⟨ka, sa⟩ ⟨kb, sb⟩
  have HA := Lib.hid hA0
  have CX := Lib.hid hB0
  clear hA0 hB0 hS0
  go_enter Tryz.func6, Tryz.ntmps6
  go_wp2_with fail
  refine (raty_any op ka sa kb sb _ _ HT0.out).mono ?_
  rintro e wA ⟨rfl, cA⟩
  have HA := Lib.hid (HA.out.later cA)
  have CX := Lib.hid (CX.out.trans (cA.mono CX.out.size))
  obtain ⟨K, hK⟩ : ∃ K, (typed s).kind = K := ⟨_, rfl⟩
  rw [hK, typed_scale]
  clear hK
  clear cA
  have hlt : w.heap.size + 1 + 1 + 1 + 1 < wA.heap.size := (Array.getElem?_eq_some_iff.1 HA.out.2.2.2.2).1
  have HT := Lib.hid (show (wA.alloc (.cells #[.int .i64 K, .int .i64 s] 25)).heap[wA.heap.size]? = some (tyO ⟨K, s⟩) from alloc_at _ _ _ rfl)
  have HA := Lib.hid (HA.out.later ((Below.refl _ _).alloc (Nat.le_refl _) (.cells #[.int .i64 K, .int .i64 s] 25)))
  have CX := Lib.hid (CX.out.alloc CX.out.size (.cells #[.int .i64 K, .int .i64 s] 25))
  obtain ⟨Tb, hTb⟩ : ∃ Tb, wA.heap.size = Tb := ⟨_, rfl⟩
  have HTL := Lib.hid (show w.heap.size + 1 + 1 + 1 + 1 < Tb by omega)
  go_upto_region 2 with fail
  obtain ⟨W1, hW1⟩ : ∃ W1, wA.alloc (.cells #[.int .i64 K, .int .i64 s] 25) = W1 := ⟨_, rfl⟩
  rw [hTb, hW1] at HT
  rw [hW1] at HA CX
  rw [hW1]
  (try rw [hTb])
  clear hTb hW1 hlt
  obtain ⟨x0, x1, x2, fx, y0, y1, y2, fy⟩ := HA.out.cellsX
  obtain ⟨a0, a1, b0, b1⟩ := HA.out.cellsT
  obtain ⟨r0, r1, r2, fr⟩ := HA.out.cellsR
  have t1 := cell_of_row W1 Tb 1 _ _ _ HT.out
  go_wp2_with fail
  refine (rfits_any ka sa true false xv xs _ _ H1.out).mono ?_
  rintro e w38 ⟨rfl, c38⟩
  have HA := Lib.hid (HA.out.later c38)
  have CX := Lib.hid (CX.out.trans (c38.mono CX.out.size))
  have HT := Lib.hid (tyO_later HT.out c38)
  clear c38 t1
  clear x0 x1 x2 fx y0 y1 y2 fy a0 a1 b0 b1 r0 r1 r2 fr
  obtain ⟨x0, x1, x2, fx, y0, y1, y2, fy⟩ := HA.out.cellsX
  obtain ⟨a0, a1, b0, b1⟩ := HA.out.cellsT
  obtain ⟨r0, r1, r2, fr⟩ := HA.out.cellsR
  have t1 := cell_of_row w38 Tb 1 _ _ _ HT.out
  go_wp2_with fail
  refine (rfits_any kb sb true false yv ys _ _ H2.out).mono ?_
  rintro e w39 ⟨rfl, c39⟩
  have HA := Lib.hid (HA.out.later c39)
  have CX := Lib.hid (CX.out.trans (c39.mono CX.out.size))
  have HT := Lib.hid (tyO_later HT.out c39)
  clear c39 t1
  clear x0 x1 x2 fx y0 y1 y2 fy a0 a1 b0 b1 r0 r1 r2 fr
  obtain ⟨x0, x1, x2, fx, y0, y1, y2, fy⟩ := HA.out.cellsX
  obtain ⟨a0, a1, b0, b1⟩ := HA.out.cellsT
  obtain ⟨r0, r1, r2, fr⟩ := HA.out.cellsR
  have t1 := cell_of_row w39 Tb 1 _ _ _ HT.out
  go_wp2_with fail
  refine (rreckon_any op xv yv HP.out HQ.out _ _ HR.out).mono ?_
  rintro e w40 ⟨u, ok, rfl, hok, hu, c40⟩
  have HA := Lib.hid (HA.out.later c40)
  have CX := Lib.hid (CX.out.trans (c40.mono CX.out.size))
  clear c40 t1
  clear x0 x1 x2 fx y0 y1 y2 fy a0 a1 b0 b1 r0 r1 r2 fr
  obtain ⟨x0, x1, x2, fx, y0, y1, y2, fy⟩ := HA.out.cellsX
  obtain ⟨a0, a1, b0, b1⟩ := HA.out.cellsT
  obtain ⟨r0, r1, r2, fr⟩ := HA.out.cellsR
  obtain rfl : ok = false := hok
  clear hu
  go_wp2_with fail
  exact bodyPost_ret (v := .tuple #[.agg #[.bool false, .int .i64 0, .string ⟨#[]⟩], .int .i64 11]) (by simp [results, Tryz.results6, go_sem, r0, r1, r2, fr]) rfl (ar_end noVa 11 CX.out _ _ _)
set_option maxRecDepth 100000 in
set_option maxHeartbeats 4000000 in
theorem rar_o_y (op : UInt8) (xn : Bool) (xv : Int) (xs : ByteArray) (yn : Bool) (yv : Int) (ys : ByteArray) (ka sa kb sb : Int) (w : World)  (s : Int) (h0 : arithTy op ⟨ka, sa⟩ ⟨kb, sb⟩ = some s) (h1 : fitsB ⟨ka, sa⟩ true ⟨xn, xv, xs⟩ = true) (h2 : fitsB ⟨kb, sb⟩ true ⟨yn, yv, ys⟩ = true) (hx : xn = false) (hy : yn = false) (hxv : I64 xv) (hyv : I64 yv) (h43 : (op == 43) = false) (h45 : (op == 45) = false) (z : Int) (hr : reckonP op xv yv = some z) : Calls Tryz.prog 6 #[.int .u8 (op.toNat : Int), .agg #[.bool xn, .int .i64 xv, .string xs], .agg #[.bool yn, .int .i64 yv, .string ys], .agg #[.int .i64 ka, .int .i64 sa], .agg #[.int .i64 kb, .int .i64 sb]] w (ArS w (numVa z) 0) := by
  have HT0 := Lib.hid h0
  clear h0
  have H1 := Lib.hid h1
  clear h1
  have H2 := Lib.hid h2
  clear h2
  subst hx
  subst hy
  have e43 : ((op.toNat : Int) == 43) = false := by rw [show (43 : Int) = ((43 : Nat) : Int) from rfl, op_num op 43 (by decide)]; exact h43
  have e45 : ((op.toNat : Int) == 45) = false := by rw [show (45 : Int) = ((45 : Nat) : Int) from rfl, op_num op 45 (by decide)]; exact h45
  clear h43 h45
  have HP := Lib.hid hxv
  have HQ := Lib.hid hyv
  have HR := Lib.hid hr
  clear hxv hyv hr
  obtain ⟨hA0, hB0, hS0⟩ := args5_at w ⟨false, xv, xs⟩ ⟨false, yv, ys⟩ ⟨ka, sa⟩ ⟨kb, sb⟩
  have HA := Lib.hid hA0
  have CX := Lib.hid hB0
  clear hA0 hB0 hS0
  go_enter Tryz.func6, Tryz.ntmps6
  go_wp2_with fail
  refine (raty_any op ka sa kb sb _ _ HT0.out).mono ?_
  rintro e wA ⟨rfl, cA⟩
  have HA := Lib.hid (HA.out.later cA)
  have CX := Lib.hid (CX.out.trans (cA.mono CX.out.size))
  obtain ⟨K, hK⟩ : ∃ K, (typed s).kind = K := ⟨_, rfl⟩
  rw [hK, typed_scale]
  clear hK
  clear cA
  have hlt : w.heap.size + 1 + 1 + 1 + 1 < wA.heap.size := (Array.getElem?_eq_some_iff.1 HA.out.2.2.2.2).1
  have HT := Lib.hid (show (wA.alloc (.cells #[.int .i64 K, .int .i64 s] 25)).heap[wA.heap.size]? = some (tyO ⟨K, s⟩) from alloc_at _ _ _ rfl)
  have HA := Lib.hid (HA.out.later ((Below.refl _ _).alloc (Nat.le_refl _) (.cells #[.int .i64 K, .int .i64 s] 25)))
  have CX := Lib.hid (CX.out.alloc CX.out.size (.cells #[.int .i64 K, .int .i64 s] 25))
  obtain ⟨Tb, hTb⟩ : ∃ Tb, wA.heap.size = Tb := ⟨_, rfl⟩
  have HTL := Lib.hid (show w.heap.size + 1 + 1 + 1 + 1 < Tb by omega)
  go_upto_region 2 with fail
  obtain ⟨W1, hW1⟩ : ∃ W1, wA.alloc (.cells #[.int .i64 K, .int .i64 s] 25) = W1 := ⟨_, rfl⟩
  rw [hTb, hW1] at HT
  rw [hW1] at HA CX
  rw [hW1]
  (try rw [hTb])
  clear hTb hW1 hlt
  obtain ⟨x0, x1, x2, fx, y0, y1, y2, fy⟩ := HA.out.cellsX
  obtain ⟨a0, a1, b0, b1⟩ := HA.out.cellsT
  obtain ⟨r0, r1, r2, fr⟩ := HA.out.cellsR
  have t1 := cell_of_row W1 Tb 1 _ _ _ HT.out
  go_wp2_with fail
  refine (rfits_any ka sa true false xv xs _ _ H1.out).mono ?_
  rintro e w41 ⟨rfl, c41⟩
  have HA := Lib.hid (HA.out.later c41)
  have CX := Lib.hid (CX.out.trans (c41.mono CX.out.size))
  have HT := Lib.hid (tyO_later HT.out c41)
  clear c41 t1
  clear x0 x1 x2 fx y0 y1 y2 fy a0 a1 b0 b1 r0 r1 r2 fr
  obtain ⟨x0, x1, x2, fx, y0, y1, y2, fy⟩ := HA.out.cellsX
  obtain ⟨a0, a1, b0, b1⟩ := HA.out.cellsT
  obtain ⟨r0, r1, r2, fr⟩ := HA.out.cellsR
  have t1 := cell_of_row w41 Tb 1 _ _ _ HT.out
  go_wp2_with fail
  refine (rfits_any kb sb true false yv ys _ _ H2.out).mono ?_
  rintro e w42 ⟨rfl, c42⟩
  have HA := Lib.hid (HA.out.later c42)
  have CX := Lib.hid (CX.out.trans (c42.mono CX.out.size))
  have HT := Lib.hid (tyO_later HT.out c42)
  clear c42 t1
  clear x0 x1 x2 fx y0 y1 y2 fy a0 a1 b0 b1 r0 r1 r2 fr
  obtain ⟨x0, x1, x2, fx, y0, y1, y2, fy⟩ := HA.out.cellsX
  obtain ⟨a0, a1, b0, b1⟩ := HA.out.cellsT
  obtain ⟨r0, r1, r2, fr⟩ := HA.out.cellsR
  have t1 := cell_of_row w42 Tb 1 _ _ _ HT.out
  go_wp2_with fail
  refine (rreckon_any op xv yv HP.out HQ.out _ _ HR.out).mono ?_
  rintro e w43 ⟨u, ok, rfl, hok, hu, c43⟩
  have HA := Lib.hid (HA.out.later c43)
  have CX := Lib.hid (CX.out.trans (c43.mono CX.out.size))
  clear c43 t1
  clear x0 x1 x2 fx y0 y1 y2 fy a0 a1 b0 b1 r0 r1 r2 fr
  obtain ⟨x0, x1, x2, fx, y0, y1, y2, fy⟩ := HA.out.cellsX
  obtain ⟨a0, a1, b0, b1⟩ := HA.out.cellsT
  obtain ⟨r0, r1, r2, fr⟩ := HA.out.cellsR
  obtain rfl : ok = true := hok
  obtain rfl : u = z := hu z rfl
  clear hu
  go_wp2_with fail
  exact bodyPost_ret (v := .tuple #[.agg #[.bool false, .int .i64 u, .string ⟨#[]⟩], .int .i64 0]) (by simp [results, Tryz.results6, go_sem, r0, r1, r2, fr]) rfl (ar_end (numVa u) 0 CX.out _ _ _)
theorem rarith_any (op : UInt8) (x y : Va) (ta tb : Ty) (hx : I64 x.n) (hy : I64 y.n) (w : World) (r : Va) (e1 : Int) (h : arithP op x y ta tb = (r, e1)) : Calls Tryz.prog 6 #[.int .u8 (op.toNat : Int), .agg #[.bool x.null, .int .i64 x.n, .string x.s], .agg #[.bool y.null, .int .i64 y.n, .string y.s], .agg #[.int .i64 ta.kind, .int .i64 ta.scale], .agg #[.int .i64 tb.kind, .int .i64 tb.scale]] w (ArS w r e1) := by
  obtain ⟨xn, xv, xs⟩ := x
  obtain ⟨yn, yv, ys⟩ := y
  obtain ⟨ka, sa⟩ := ta
  obtain ⟨kb, sb⟩ := tb
  change I64 xv at hx
  change I64 yv at hy
  unfold arithP at h
  cases h0 : arithTy op ⟨ka, sa⟩ ⟨kb, sb⟩ with
  | none =>
    rw [h0] at h
    cases h
    exact rar_ty op xn xv xs yn yv ys ka sa kb sb w h0
  | some s =>
    rw [h0] at h
    cases h1 : fitsB ⟨ka, sa⟩ true ⟨xn, xv, xs⟩ with
    | false =>
      simp only [h1, Bool.not_false, Bool.true_or, if_true, Prod.mk.injEq] at h
      obtain ⟨rfl, rfl⟩ := h
      exact rar_fx op xn xv xs yn yv ys ka sa kb sb w s h0 _ h1 rfl
    | true =>
      cases h2 : fitsB ⟨kb, sb⟩ true ⟨yn, yv, ys⟩ with
      | false =>
        simp only [h1, h2, Bool.not_false, Bool.not_true, Bool.or_true, if_true, Prod.mk.injEq] at h
        obtain ⟨rfl, rfl⟩ := h
        exact rar_fy op xn xv xs yn yv ys ka sa kb sb w s h0 h1 h2
      | true =>
        simp only [h1, h2, Bool.not_true, Bool.or_self, Bool.false_eq_true, if_false] at h
        cases xn with
        | true =>
          simp only [Bool.true_or, if_true, Prod.mk.injEq] at h
          obtain ⟨rfl, rfl⟩ := h
          exact rar_nx op true xv xs yn yv ys ka sa kb sb w s h0 h1 h2 rfl
        | false =>
          cases yn with
          | true =>
            simp only [Bool.or_true, if_true, Prod.mk.injEq] at h
            obtain ⟨rfl, rfl⟩ := h
            exact rar_ny op false xv xs true yv ys ka sa kb sb w s h0 h1 h2 rfl rfl
          | false =>
            simp only [Bool.or_self, Bool.false_eq_true, if_false] at h
            unfold both at h
            have pm : (op == 43 || op == 45) = true → Calls Tryz.prog 6 #[.int .u8 (op.toNat : Int), .agg #[.bool false, .int .i64 xv, .string xs], .agg #[.bool false, .int .i64 yv, .string ys], .agg #[.int .i64 ka, .int .i64 sa], .agg #[.int .i64 kb, .int .i64 sb]] w (ArS w r e1) := fun ho => by
              simp only [ho, if_true] at h
              obtain ⟨p, e, hp⟩ : ∃ p e, scaleP xv sa s = (p, e) := ⟨_, _, rfl⟩
              obtain ⟨q, f, hq⟩ : ∃ q f, scaleP yv sb s = (q, f) := ⟨_, _, rfl⟩
              rw [hp, hq] at h
              simp only at h
              have hb : (op == 43) = true ∨ ((op == 43) = false ∧ (op == 45) = true) := by
                cases h43 : (op == 43)
                · rw [h43] at ho; exact .inr ⟨rfl, by simpa using ho⟩
                · exact .inl rfl
              by_cases he : e = 0
              · subst he
                by_cases hf : f = 0
                · subst hf
                  simp only [and_self, if_true] at h
                  cases hr : reckonP op p q with
                  | none =>
                    rw [hr] at h
                    cases h
                    rcases hb with h43 | ⟨h43, h45⟩
                    · exact rar_p_n op false xv xs false yv ys ka sa kb sb w s h0 h1 h2 rfl rfl hx hy h43 p hp q hq (scale_out hx hp) (scale_out hy hq) hr
                    · exact rar_m_n op false xv xs false yv ys ka sa kb sb w s h0 h1 h2 rfl rfl hx hy h43 h45 p hp q hq (scale_out hx hp) (scale_out hy hq) hr
                  | some z =>
                    rw [hr] at h
                    cases h
                    rcases hb with h43 | ⟨h43, h45⟩
                    · exact rar_p_y op false xv xs false yv ys ka sa kb sb w s h0 h1 h2 rfl rfl hx hy h43 p hp q hq (scale_out hx hp) (scale_out hy hq) z hr
                    · exact rar_m_y op false xv xs false yv ys ka sa kb sb w s h0 h1 h2 rfl rfl hx hy h43 h45 p hp q hq (scale_out hx hp) (scale_out hy hq) z hr
                · simp only [hf, and_false, if_false] at h
                  cases h
                  rcases hb with h43 | ⟨h43, h45⟩
                  · exact rar_p_f op false xv xs false yv ys ka sa kb sb w s h0 h1 h2 rfl rfl hx hy h43 p hp q f hq hf
                  · exact rar_m_f op false xv xs false yv ys ka sa kb sb w s h0 h1 h2 rfl rfl hx hy h43 h45 p hp q f hq hf
              · simp only [he, false_and, if_false] at h
                cases h
                rcases hb with h43 | ⟨h43, h45⟩
                · exact rar_p_e op false xv xs false yv ys ka sa kb sb w s h0 h1 h2 rfl rfl hx hy h43 p e hp q f hq he
                · exact rar_m_e op false xv xs false yv ys ka sa kb sb w s h0 h1 h2 rfl rfl hx hy h43 h45 p e hp q f hq he
            cases ho : (op == 43 || op == 45) with
            | true => exact pm ho
            | false =>
              simp only [ho, Bool.false_eq_true, if_false] at h
              simp only [Bool.or_eq_false_iff] at ho
              cases hr : reckonP op xv yv with
              | none =>
                rw [hr] at h
                cases h
                exact rar_o_n op false xv xs false yv ys ka sa kb sb w s h0 h1 h2 rfl rfl hx hy ho.1 ho.2 hr
              | some z =>
                rw [hr] at h
                cases h
                exact rar_o_y op false xv xs false yv ys ka sa kb sb w s h0 h1 h2 rfl rfl hx hy ho.1 ho.2 z hr
end Go.Proofs.YtekpdcofjhdiiaaGreatDoor.Val
