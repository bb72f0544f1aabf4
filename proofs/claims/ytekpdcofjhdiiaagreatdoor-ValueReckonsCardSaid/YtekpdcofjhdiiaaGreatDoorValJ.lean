/-
  Compare of chapter 10. No condition beyond what each theorem names.
-/
import Derived.Test.YtekpdcofjhdiiaaGreatDoorValI
namespace Go.Proofs.YtekpdcofjhdiiaaGreatDoor.Val
open Go.RowKit Go.Maps
set_option linter.unusedVariables false
set_option linter.unusedSimpArgs false
def CAt (W : World) (b : Nat) (x y : Va) (ta tb : Ty) : Prop := W.heap[b]? = some (vaO x) ∧ W.heap[b + 1]? = some (vaO y) ∧ W.heap[b + 1 + 1]? = some (tyO ta) ∧ W.heap[b + 1 + 1 + 1]? = some (tyO tb)
theorem CAt.later {W W' : World} {b : Nat} {x y : Va} {ta tb : Ty} (h : CAt W b x y ta tb) (c : Below W.heap.size W W') : CAt W' b x y ta tb := by
  obtain ⟨h0, h1, h2, h3⟩ := h
  exact ⟨(c.block _ (Array.getElem?_eq_some_iff.1 h0).1).trans h0, (c.block _ (Array.getElem?_eq_some_iff.1 h1).1).trans h1, (c.block _ (Array.getElem?_eq_some_iff.1 h2).1).trans h2, (c.block _ (Array.getElem?_eq_some_iff.1 h3).1).trans h3⟩
theorem CAt.cellsX {W : World} {b : Nat} {x y : Va} {ta tb : Ty} (h : CAt W b x y ta tb) : W.cell? ⟨b, 0, none⟩ = some (.bool x.null) ∧ W.cell? ⟨b, 1, none⟩ = some (.int .i64 x.n) ∧ W.cell? ⟨b, 2, none⟩ = some (.string x.s) ∧ W.cell? ⟨b + 1, 0, none⟩ = some (.bool y.null) ∧ W.cell? ⟨b + 1, 1, none⟩ = some (.int .i64 y.n) ∧ W.cell? ⟨b + 1, 2, none⟩ = some (.string y.s) := by
  obtain ⟨h0, h1, h2, h3⟩ := h
  exact ⟨cell_of_row W _ 0 _ _ _ h0, cell_of_row W _ 1 _ _ _ h0, cell_of_row W _ 2 _ _ _ h0, cell_of_row W _ 0 _ _ _ h1, cell_of_row W _ 1 _ _ _ h1, cell_of_row W _ 2 _ _ _ h1⟩
theorem CAt.cellsT {W : World} {b : Nat} {x y : Va} {ta tb : Ty} (h : CAt W b x y ta tb) : W.cell? ⟨b + 1 + 1, 0, none⟩ = some (.int .i64 ta.kind) ∧ W.cell? ⟨b + 1 + 1, 1, none⟩ = some (.int .i64 ta.scale) ∧ W.cell? ⟨b + 1 + 1 + 1, 0, none⟩ = some (.int .i64 tb.kind) ∧ W.cell? ⟨b + 1 + 1 + 1, 1, none⟩ = some (.int .i64 tb.scale) := by
  obtain ⟨h0, h1, h2, h3⟩ := h
  exact ⟨cell_of_row W _ 0 _ _ _ h2, cell_of_row W _ 1 _ _ _ h2, cell_of_row W _ 0 _ _ _ h3, cell_of_row W _ 1 _ _ _ h3⟩
def args4 (w : World) (x y : Va) (ta tb : Ty) : World := (((w.alloc (vaO x)).alloc (vaO y)).alloc (tyO ta)).alloc (tyO tb)
theorem args4_at (w : World) (x y : Va) (ta tb : Ty) : CAt (args4 w x y ta tb) w.heap.size x y ta tb ∧ Below w.heap.size w (args4 w x y ta tb) := by
  unfold args4
  refine ⟨⟨alloc_later (w := w) (alloc_later (w := w) (alloc_later (w := w) (alloc_at _ _ _ rfl))), alloc_later (w := w) (alloc_later (w := w) (alloc_at _ _ _ (by simp))), alloc_later (w := w) (alloc_at _ _ _ (by simp)), alloc_at _ _ _ (by simp)⟩, ?_⟩
  exact ((((Below.refl _ _).alloc (Nat.le_refl _) _).alloc (by simp) _).alloc (by simp; omega) _).alloc (by simp; omega) _
def CmpS (w : World) (o : Option Int) (e : Ending) (w' : World) : Prop := e = .returned (.tuple #[.int .i64 (cmpOut o).1, .bool (cmpOut o).2]) ∧ Below w.heap.size w w'
theorem hi_small {hi lo N T : Nat} (hp : hi * 18446744073709551616 + lo = N * T) (hN : N < 18446744073709551616) (hT : T ≤ 1000000000) : hi < 18446744073709551616 := by
  have h1 : N * T ≤ N * 1000000000 := Nat.mul_le_mul_left N hT
  omega
theorem wcmp_c {M M' : Bool} {hi lo hi' lo' P P' : Nat} {c : Int} (hp : hi * 18446744073709551616 + lo = P) (hl : lo < 18446744073709551616) (hp' : hi' * 18446744073709551616 + lo' = P') (hl' : lo' < 18446744073709551616) (h1 : hi < 18446744073709551616) (h2 : hi' < 18446744073709551616) (hc : cmpW M P M' P' = c) (W : World) : Calls Tryz.prog 31 #[.agg #[.bool M, .int .u64 hi, .int .u64 lo], .agg #[.bool M', .int .u64 hi', .int .u64 lo']] W (IntS W c) := by
  have h := wcmp_any M hi lo M' hi' lo' h1 hl h2 hl' W
  rw [hp, hp', hc] at h
  exact h
abbrev HeldC (w : World) (xv yv sa sb : Int) (W : World) : Prop := W.cell? ⟨w.heap.size, 1, none⟩ = some (.int .i64 xv) ∧ W.cell? ⟨w.heap.size + 1, 1, none⟩ = some (.int .i64 yv) ∧ W.cell? ⟨w.heap.size + 1 + 1, 1, none⟩ = some (.int .i64 sa) ∧ W.cell? ⟨w.heap.size + 1 + 1 + 1, 1, none⟩ = some (.int .i64 sb) ∧ Below w.heap.size w W
theorem heldC_later {w : World} {xv yv sa sb : Int} {W W' : World} (c : Below W.heap.size W W') (h : HeldC w xv yv sa sb W) : HeldC w xv yv sa sb W' :=
  ⟨cell_later c h.1, cell_later c h.2.1, cell_later c h.2.2.1, cell_later c h.2.2.2.1, h.2.2.2.2.trans (c.mono h.2.2.2.2.size)⟩
set_option maxRecDepth 100000 in
set_option maxHeartbeats 4000000 in
theorem cp_fx (xn : Bool) (xv : Int) (xs : ByteArray) (yn : Bool) (yv : Int) (ys : ByteArray) (ka sa kb sb : Int) (w : World) (h1 : fitsB ⟨ka, sa⟩ false ⟨xn, xv, xs⟩ = false) : Calls Tryz.prog 7 #[.agg #[.bool xn, .int .i64 xv, .string xs], .agg #[.bool yn, .int .i64 yv, .string ys], .agg #[.int .i64 ka, .int .i64 sa], .agg #[.int .i64 kb, .int .i64 sb]] w (CmpS w none) := by
  have H1 := Lib.hid h1
  clear h1
  obtain ⟨hA0, hB0⟩ := args4_at w ⟨xn, xv, xs⟩ ⟨yn, yv, ys⟩ ⟨ka, sa⟩ ⟨kb, sb⟩
  have HA := Lib.hid hA0
  have CX := Lib.hid hB0
  clear hA0 hB0
  go_enter Tryz.func7, Tryz.ntmps7
  go_wp2_with fail
  refine (fits_any ka sa false xn xv xs _ _ H1.out).mono ?_
  rintro e w6 ⟨rfl, c6⟩
  have HA := Lib.hid (HA.out.later c6)
  have CX := Lib.hid (CX.out.trans (c6.mono CX.out.size))
  clear c6
  obtain ⟨x0, x1, x2, y0, y1, y2⟩ := HA.out.cellsX
  obtain ⟨a0, a1, b0, b1⟩ := HA.out.cellsT
  go_wp2_with fail
  go_ret2
  exact ⟨rfl, CX.out⟩
set_option maxRecDepth 100000 in
set_option maxHeartbeats 4000000 in
theorem cp_fy (xn : Bool) (xv : Int) (xs : ByteArray) (yn : Bool) (yv : Int) (ys : ByteArray) (ka sa kb sb : Int) (w : World) (h1 : fitsB ⟨ka, sa⟩ false ⟨xn, xv, xs⟩ = true) (h2 : fitsB ⟨kb, sb⟩ false ⟨yn, yv, ys⟩ = false) : Calls Tryz.prog 7 #[.agg #[.bool xn, .int .i64 xv, .string xs], .agg #[.bool yn, .int .i64 yv, .string ys], .agg #[.int .i64 ka, .int .i64 sa], .agg #[.int .i64 kb, .int .i64 sb]] w (CmpS w none) := by
  have H1 := Lib.hid h1
  clear h1
  have H2 := Lib.hid h2
  clear h2
  obtain ⟨hA0, hB0⟩ := args4_at w ⟨xn, xv, xs⟩ ⟨yn, yv, ys⟩ ⟨ka, sa⟩ ⟨kb, sb⟩
  have HA := Lib.hid hA0
  have CX := Lib.hid hB0
  clear hA0 hB0
  go_enter Tryz.func7, Tryz.ntmps7
  go_wp2_with fail
  refine (fits_any ka sa false xn xv xs _ _ H1.out).mono ?_
  rintro e w7 ⟨rfl, c7⟩
  have HA := Lib.hid (HA.out.later c7)
  have CX := Lib.hid (CX.out.trans (c7.mono CX.out.size))
  clear c7
  obtain ⟨x0, x1, x2, y0, y1, y2⟩ := HA.out.cellsX
  obtain ⟨a0, a1, b0, b1⟩ := HA.out.cellsT
  go_wp2_with fail
  refine (fits_any kb sb false yn yv ys _ _ H2.out).mono ?_
  rintro e w8 ⟨rfl, c8⟩
  have HA := Lib.hid (HA.out.later c8)
  have CX := Lib.hid (CX.out.trans (c8.mono CX.out.size))
  clear c8
  clear x0 x1 x2 y0 y1 y2 a0 a1 b0 b1
  obtain ⟨x0, x1, x2, y0, y1, y2⟩ := HA.out.cellsX
  obtain ⟨a0, a1, b0, b1⟩ := HA.out.cellsT
  go_wp2_with fail
  go_ret2
  exact ⟨rfl, CX.out⟩
set_option maxRecDepth 100000 in
set_option maxHeartbeats 4000000 in
theorem cp_na_fx (xn : Bool) (xv : Int) (xs : ByteArray) (yn : Bool) (yv : Int) (ys : ByteArray) (ka sa kb sb : Int) (w : World) (h1 : fitsB ⟨ka, sa⟩ false ⟨xn, xv, xs⟩ = true) (h2 : fitsB ⟨kb, sb⟩ false ⟨yn, yv, ys⟩ = true) (hna : numB ⟨ka, sa⟩ = true) (hnb : numB ⟨kb, sb⟩ = false) (hek : (ka == kb) = false) : Calls Tryz.prog 7 #[.agg #[.bool xn, .int .i64 xv, .string xs], .agg #[.bool yn, .int .i64 yv, .string ys], .agg #[.int .i64 ka, .int .i64 sa], .agg #[.int .i64 kb, .int .i64 sb]] w (CmpS w none) := by
  have H1 := Lib.hid h1
  clear h1
  have H2 := Lib.hid h2
  clear h2
  have HNA := Lib.hid hna
  clear hna
  have HNB := Lib.hid hnb
  clear hnb
  have ek : (ka == kb) = false := hek
  clear hek
  obtain ⟨hA0, hB0⟩ := args4_at w ⟨xn, xv, xs⟩ ⟨yn, yv, ys⟩ ⟨ka, sa⟩ ⟨kb, sb⟩
  have HA := Lib.hid hA0
  have CX := Lib.hid hB0
  clear hA0 hB0
  go_enter Tryz.func7, Tryz.ntmps7
  go_wp2_with fail
  refine (fits_any ka sa false xn xv xs _ _ H1.out).mono ?_
  rintro e w9 ⟨rfl, c9⟩
  have HA := Lib.hid (HA.out.later c9)
  have CX := Lib.hid (CX.out.trans (c9.mono CX.out.size))
  clear c9
  obtain ⟨x0, x1, x2, y0, y1, y2⟩ := HA.out.cellsX
  obtain ⟨a0, a1, b0, b1⟩ := HA.out.cellsT
  go_wp2_with fail
  refine (fits_any kb sb false yn yv ys _ _ H2.out).mono ?_
  rintro e w10 ⟨rfl, c10⟩
  have HA := Lib.hid (HA.out.later c10)
  have CX := Lib.hid (CX.out.trans (c10.mono CX.out.size))
  clear c10
  clear x0 x1 x2 y0 y1 y2 a0 a1 b0 b1
  obtain ⟨x0, x1, x2, y0, y1, y2⟩ := HA.out.cellsX
  obtain ⟨a0, a1, b0, b1⟩ := HA.out.cellsT
  go_wp2_with fail
  refine (num_any ka sa _ _ HNA.out).mono ?_
  rintro e w11 ⟨rfl, c11⟩
  have HA := Lib.hid (HA.out.later c11)
  have CX := Lib.hid (CX.out.trans (c11.mono CX.out.size))
  clear c11
  clear x0 x1 x2 y0 y1 y2 a0 a1 b0 b1
  obtain ⟨x0, x1, x2, y0, y1, y2⟩ := HA.out.cellsX
  obtain ⟨a0, a1, b0, b1⟩ := HA.out.cellsT
  go_wp2_with fail
  refine (num_any kb sb _ _ HNB.out).mono ?_
  rintro e w12 ⟨rfl, c12⟩
  have HA := Lib.hid (HA.out.later c12)
  have CX := Lib.hid (CX.out.trans (c12.mono CX.out.size))
  clear c12
  clear x0 x1 x2 y0 y1 y2 a0 a1 b0 b1
  obtain ⟨x0, x1, x2, y0, y1, y2⟩ := HA.out.cellsX
  obtain ⟨a0, a1, b0, b1⟩ := HA.out.cellsT
  go_wp2_with fail
  go_ret2
  exact ⟨rfl, CX.out⟩
set_option maxRecDepth 100000 in
set_option maxHeartbeats 4000000 in
theorem cp_nb_fx (xn : Bool) (xv : Int) (xs : ByteArray) (yn : Bool) (yv : Int) (ys : ByteArray) (ka sa kb sb : Int) (w : World) (h1 : fitsB ⟨ka, sa⟩ false ⟨xn, xv, xs⟩ = true) (h2 : fitsB ⟨kb, sb⟩ false ⟨yn, yv, ys⟩ = true) (hna : numB ⟨ka, sa⟩ = false) (hek : (ka == kb) = false) : Calls Tryz.prog 7 #[.agg #[.bool xn, .int .i64 xv, .string xs], .agg #[.bool yn, .int .i64 yv, .string ys], .agg #[.int .i64 ka, .int .i64 sa], .agg #[.int .i64 kb, .int .i64 sb]] w (CmpS w none) := by
  have H1 := Lib.hid h1
  clear h1
  have H2 := Lib.hid h2
  clear h2
  have HNA := Lib.hid hna
  clear hna
  have ek : (ka == kb) = false := hek
  clear hek
  obtain ⟨hA0, hB0⟩ := args4_at w ⟨xn, xv, xs⟩ ⟨yn, yv, ys⟩ ⟨ka, sa⟩ ⟨kb, sb⟩
  have HA := Lib.hid hA0
  have CX := Lib.hid hB0
  clear hA0 hB0
  go_enter Tryz.func7, Tryz.ntmps7
  go_wp2_with fail
  refine (fits_any ka sa false xn xv xs _ _ H1.out).mono ?_
  rintro e w13 ⟨rfl, c13⟩
  have HA := Lib.hid (HA.out.later c13)
  have CX := Lib.hid (CX.out.trans (c13.mono CX.out.size))
  clear c13
  obtain ⟨x0, x1, x2, y0, y1, y2⟩ := HA.out.cellsX
  obtain ⟨a0, a1, b0, b1⟩ := HA.out.cellsT
  go_wp2_with fail
  refine (fits_any kb sb false yn yv ys _ _ H2.out).mono ?_
  rintro e w14 ⟨rfl, c14⟩
  have HA := Lib.hid (HA.out.later c14)
  have CX := Lib.hid (CX.out.trans (c14.mono CX.out.size))
  clear c14
  clear x0 x1 x2 y0 y1 y2 a0 a1 b0 b1
  obtain ⟨x0, x1, x2, y0, y1, y2⟩ := HA.out.cellsX
  obtain ⟨a0, a1, b0, b1⟩ := HA.out.cellsT
  go_wp2_with fail
  refine (num_any ka sa _ _ HNA.out).mono ?_
  rintro e w15 ⟨rfl, c15⟩
  have HA := Lib.hid (HA.out.later c15)
  have CX := Lib.hid (CX.out.trans (c15.mono CX.out.size))
  clear c15
  clear x0 x1 x2 y0 y1 y2 a0 a1 b0 b1
  obtain ⟨x0, x1, x2, y0, y1, y2⟩ := HA.out.cellsX
  obtain ⟨a0, a1, b0, b1⟩ := HA.out.cellsT
  go_wp2_with fail
  go_ret2
  exact ⟨rfl, CX.out⟩
set_option maxRecDepth 100000 in
set_option maxHeartbeats 4000000 in
theorem cp_na_tf (xn : Bool) (xv : Int) (xs : ByteArray) (yn : Bool) (yv : Int) (ys : ByteArray) (ka sa kb sb : Int) (w : World) (h1 : fitsB ⟨ka, sa⟩ false ⟨xn, xv, xs⟩ = true) (h2 : fitsB ⟨kb, sb⟩ false ⟨yn, yv, ys⟩ = true) (hna : numB ⟨ka, sa⟩ = true) (hnb : numB ⟨kb, sb⟩ = false) (hek : (ka == kb) = true) (hes : (sa == sb) = false) : Calls Tryz.prog 7 #[.agg #[.bool xn, .int .i64 xv, .string xs], .agg #[.bool yn, .int .i64 yv, .string ys], .agg #[.int .i64 ka, .int .i64 sa], .agg #[.int .i64 kb, .int .i64 sb]] w (CmpS w none) := by
  have H1 := Lib.hid h1
  clear h1
  have H2 := Lib.hid h2
  clear h2
  have HNA := Lib.hid hna
  clear hna
  have HNB := Lib.hid hnb
  clear hnb
  have ek : (ka == kb) = true := hek
  clear hek
  have es : (sa == sb) = false := hes
  clear hes
  obtain ⟨hA0, hB0⟩ := args4_at w ⟨xn, xv, xs⟩ ⟨yn, yv, ys⟩ ⟨ka, sa⟩ ⟨kb, sb⟩
  have HA := Lib.hid hA0
  have CX := Lib.hid hB0
  clear hA0 hB0
  go_enter Tryz.func7, Tryz.ntmps7
  go_wp2_with fail
  refine (fits_any ka sa false xn xv xs _ _ H1.out).mono ?_
  rintro e w16 ⟨rfl, c16⟩
  have HA := Lib.hid (HA.out.later c16)
  have CX := Lib.hid (CX.out.trans (c16.mono CX.out.size))
  clear c16
  obtain ⟨x0, x1, x2, y0, y1, y2⟩ := HA.out.cellsX
  obtain ⟨a0, a1, b0, b1⟩ := HA.out.cellsT
  go_wp2_with fail
  refine (fits_any kb sb false yn yv ys _ _ H2.out).mono ?_
  rintro e w17 ⟨rfl, c17⟩
  have HA := Lib.hid (HA.out.later c17)
  have CX := Lib.hid (CX.out.trans (c17.mono CX.out.size))
  clear c17
  clear x0 x1 x2 y0 y1 y2 a0 a1 b0 b1
  obtain ⟨x0, x1, x2, y0, y1, y2⟩ := HA.out.cellsX
  obtain ⟨a0, a1, b0, b1⟩ := HA.out.cellsT
  go_wp2_with fail
  refine (num_any ka sa _ _ HNA.out).mono ?_
  rintro e w18 ⟨rfl, c18⟩
  have HA := Lib.hid (HA.out.later c18)
  have CX := Lib.hid (CX.out.trans (c18.mono CX.out.size))
  clear c18
  clear x0 x1 x2 y0 y1 y2 a0 a1 b0 b1
  obtain ⟨x0, x1, x2, y0, y1, y2⟩ := HA.out.cellsX
  obtain ⟨a0, a1, b0, b1⟩ := HA.out.cellsT
  go_wp2_with fail
  refine (num_any kb sb _ _ HNB.out).mono ?_
  rintro e w19 ⟨rfl, c19⟩
  have HA := Lib.hid (HA.out.later c19)
  have CX := Lib.hid (CX.out.trans (c19.mono CX.out.size))
  clear c19
  clear x0 x1 x2 y0 y1 y2 a0 a1 b0 b1
  obtain ⟨x0, x1, x2, y0, y1, y2⟩ := HA.out.cellsX
  obtain ⟨a0, a1, b0, b1⟩ := HA.out.cellsT
  go_wp2_with fail
  go_ret2
  exact ⟨rfl, CX.out⟩
set_option maxRecDepth 100000 in
set_option maxHeartbeats 4000000 in
theorem cp_nb_tf (xn : Bool) (xv : Int) (xs : ByteArray) (yn : Bool) (yv : Int) (ys : ByteArray) (ka sa kb sb : Int) (w : World) (h1 : fitsB ⟨ka, sa⟩ false ⟨xn, xv, xs⟩ = true) (h2 : fitsB ⟨kb, sb⟩ false ⟨yn, yv, ys⟩ = true) (hna : numB ⟨ka, sa⟩ = false) (hek : (ka == kb) = true) (hes : (sa == sb) = false) : Calls Tryz.prog 7 #[.agg #[.bool xn, .int .i64 xv, .string xs], .agg #[.bool yn, .int .i64 yv, .string ys], .agg #[.int .i64 ka, .int .i64 sa], .agg #[.int .i64 kb, .int .i64 sb]] w (CmpS w none) := by
  have H1 := Lib.hid h1
  clear h1
  have H2 := Lib.hid h2
  clear h2
  have HNA := Lib.hid hna
  clear hna
  have ek : (ka == kb) = true := hek
  clear hek
  have es : (sa == sb) = false := hes
  clear hes
  obtain ⟨hA0, hB0⟩ := args4_at w ⟨xn, xv, xs⟩ ⟨yn, yv, ys⟩ ⟨ka, sa⟩ ⟨kb, sb⟩
  have HA := Lib.hid hA0
  have CX := Lib.hid hB0
  clear hA0 hB0
  go_enter Tryz.func7, Tryz.ntmps7
  go_wp2_with fail
  refine (fits_any ka sa false xn xv xs _ _ H1.out).mono ?_
  rintro e w20 ⟨rfl, c20⟩
  have HA := Lib.hid (HA.out.later c20)
  have CX := Lib.hid (CX.out.trans (c20.mono CX.out.size))
  clear c20
  obtain ⟨x0, x1, x2, y0, y1, y2⟩ := HA.out.cellsX
  obtain ⟨a0, a1, b0, b1⟩ := HA.out.cellsT
  go_wp2_with fail
  refine (fits_any kb sb false yn yv ys _ _ H2.out).mono ?_
  rintro e w21 ⟨rfl, c21⟩
  have HA := Lib.hid (HA.out.later c21)
  have CX := Lib.hid (CX.out.trans (c21.mono CX.out.size))
  clear c21
  clear x0 x1 x2 y0 y1 y2 a0 a1 b0 b1
  obtain ⟨x0, x1, x2, y0, y1, y2⟩ := HA.out.cellsX
  obtain ⟨a0, a1, b0, b1⟩ := HA.out.cellsT
  go_wp2_with fail
  refine (num_any ka sa _ _ HNA.out).mono ?_
  rintro e w22 ⟨rfl, c22⟩
  have HA := Lib.hid (HA.out.later c22)
  have CX := Lib.hid (CX.out.trans (c22.mono CX.out.size))
  clear c22
  clear x0 x1 x2 y0 y1 y2 a0 a1 b0 b1
  obtain ⟨x0, x1, x2, y0, y1, y2⟩ := HA.out.cellsX
  obtain ⟨a0, a1, b0, b1⟩ := HA.out.cellsT
  go_wp2_with fail
  go_ret2
  exact ⟨rfl, CX.out⟩
set_option maxRecDepth 100000 in
set_option maxHeartbeats 4000000 in
theorem cp_num (xn : Bool) (xv : Int) (xs : ByteArray) (yn : Bool) (yv : Int) (ys : ByteArray) (ka sa kb sb : Int) (w : World) (h1 : fitsB ⟨ka, sa⟩ false ⟨xn, xv, xs⟩ = true) (h2 : fitsB ⟨kb, sb⟩ false ⟨yn, yv, ys⟩ = true) (hna : numB ⟨ka, sa⟩ = true) (hnb : numB ⟨kb, sb⟩ = true) (hxv : I64 xv) (hyv : I64 yv) (ra : 0 ≤ sa ∧ sa ≤ 9) (rb : 0 ≤ sb ∧ sb ≤ 9) : Calls Tryz.prog 7 #[.agg #[.bool xn, .int .i64 xv, .string xs], .agg #[.bool yn, .int .i64 yv, .string ys], .agg #[.int .i64 ka, .int .i64 sa], .agg #[.int .i64 kb, .int .i64 sb]] w (CmpS w (some (cmpI (xv * ten (9 - sa).toNat) (yv * ten (9 - sb).toNat)))) := by
  have H1 := Lib.hid h1
  clear h1
  have H2 := Lib.hid h2
  clear h2
  have HNA := Lib.hid hna
  clear hna
  have HNB := Lib.hid hnb
  clear hnb
  obtain ⟨ra0, ra9⟩ := ra
  obtain ⟨rb0, rb9⟩ := rb
  have HXV := Lib.hid hxv
  have HYV := Lib.hid hyv
  obtain ⟨j, hj⟩ : ∃ j : Nat, 9 - sa = j := ⟨(9 - sa).toNat, by omega⟩
  obtain ⟨k, hk⟩ : ∃ k : Nat, 9 - sb = k := ⟨(9 - sb).toNat, by omega⟩
  have hj9 : j ≤ 9 := by omega
  have hk9 : k ≤ 9 := by omega
  obtain ⟨D1, hD1⟩ : ∃ D, decide (xv < 0) = D := ⟨_, rfl⟩
  obtain ⟨D2, hD2⟩ : ∃ D, decide (yv < 0) = D := ⟨_, rfl⟩
  obtain ⟨N1, hN1⟩ : ∃ N, xv.natAbs = N := ⟨_, rfl⟩
  obtain ⟨N2, hN2⟩ : ∃ N, yv.natAbs = N := ⟨_, rfl⟩
  obtain ⟨T1, hT1⟩ : ∃ T, ten j = T := ⟨_, rfl⟩
  obtain ⟨T2, hT2⟩ : ∃ T, ten k = T := ⟨_, rfl⟩
  have hn1 : N1 < 18446744073709551616 := hN1 ▸ i64_abs hxv
  have hn2 : N2 < 18446744073709551616 := hN2 ▸ i64_abs hyv
  have ht1 : I64 T1 := hT1 ▸ ten_i64 j hj9
  have ht2 : I64 T2 := hT2 ▸ ten_i64 k hk9
  have hb1 : T1.natAbs ≤ 1000000000 := by have := ten_le j hj9; have := ten_pos j; rw [← hT1]; omega
  have hb2 : T2.natAbs ≤ 1000000000 := by have := ten_le k hk9; have := ten_pos k; rw [← hT2]; omega
  have hc : cmpW (D1 != decide (T1 < 0)) (N1 * T1.natAbs) (D2 != decide (T2 < 0)) (N2 * T2.natAbs) = cmpI (xv * ten (9 - sa).toNat) (yv * ten (9 - sb).toNat) := by
    have e1 := sgn_scale xv j
    have e2 := sgn_scale yv k
    rw [hD1, hN1, hT1] at e1
    rw [hD2, hN2, hT2] at e2
    rw [show (9 - sa).toNat = j by omega, show (9 - sb).toNat = k by omega, hT1, hT2, ← e1, ← e2]
    rfl
  obtain ⟨C, hC⟩ : ∃ C, cmpI (xv * ten (9 - sa).toNat) (yv * ten (9 - sb).toNat) = C := ⟨_, rfl⟩
  rw [hC] at hc ⊢
  have KX := Lib.hid (fun W => widen_any xv hxv W)
  have KY := Lib.hid (fun W => widen_any yv hyv W)
  rw [hD1, hN1] at KX
  rw [hD2, hN2] at KY
  have K1 := Lib.hid (fun W => ten_any j hj9 W)
  have K2 := Lib.hid (fun W => ten_any k hk9 W)
  rw [hT1] at K1
  rw [hT2] at K2
  have M1 := Lib.hid (show ∀ W, Calls Tryz.prog 29 #[.agg #[.bool D1, .int .u64 0, .int .u64 N1], .int .i64 T1] W (TimesS W (D1 != decide (T1 < 0)) (N1 * T1.natAbs)) from fun W => times_any D1 0 N1 hn1 T1 ht1 W)
  have M2 := Lib.hid (show ∀ W, Calls Tryz.prog 29 #[.agg #[.bool D2, .int .u64 0, .int .u64 N2], .int .i64 T2] W (TimesS W (D2 != decide (T2 < 0)) (N2 * T2.natAbs)) from fun W => times_any D2 0 N2 hn2 T2 ht2 W)
  obtain ⟨G1, hG1⟩ : ∃ G, (D1 != decide (T1 < 0)) = G := ⟨_, rfl⟩
  obtain ⟨G2, hG2⟩ : ∃ G, (D2 != decide (T2 < 0)) = G := ⟨_, rfl⟩
  rw [hG1] at hc M1
  rw [hG2] at hc M2
  obtain ⟨P1, hP1⟩ : ∃ P, N1 * T1.natAbs = P := ⟨_, rfl⟩
  obtain ⟨P2, hP2⟩ : ∃ P, N2 * T2.natAbs = P := ⟨_, rfl⟩
  rw [hP1, hP2] at hc
  rw [hP1] at M1
  rw [hP2] at M2
  have HC := Lib.hid hc
  have B1 := Lib.hid (fun (hi lo : Nat) (h : hi * 18446744073709551616 + lo = P1) => hi_small (hi := hi) (lo := lo) (N := N1) (T := T1.natAbs) (h.trans hP1.symm) hn1 hb1)
  have B2 := Lib.hid (fun (hi lo : Nat) (h : hi * 18446744073709551616 + lo = P2) => hi_small (hi := hi) (lo := lo) (N := N2) (T := T2.natAbs) (h.trans hP2.symm) hn2 hb2)
  have wj : IntKind.i64.wrap (9 - sa) = (j : Int) := by rw [hj]; exact IntWalk.i64_in _ (by omega)
  have wk : IntKind.i64.wrap (9 - sb) = (k : Int) := by rw [hk]; exact IntWalk.i64_in _ (by omega)
  have WJ := Lib.hid wj
  have WK := Lib.hid wk
  have SJ := Lib.hid hj
  have SK := Lib.hid hk
  clear hxv hyv hj hk hj9 hk9 hD1 hD2 hN1 hN2 hT1 hT2 hn1 hn2 ht1 ht2 hb1 hb2 hc hC hG1 hG2 hP1 hP2 wj wk
  obtain ⟨hA0, hB0⟩ := args4_at w ⟨xn, xv, xs⟩ ⟨yn, yv, ys⟩ ⟨ka, sa⟩ ⟨kb, sb⟩
  have HA := Lib.hid hA0
  have CX := Lib.hid hB0
  clear hA0 hB0
  go_enter Tryz.func7, Tryz.ntmps7
  go_wp2_with fail
  refine (fits_any ka sa false xn xv xs _ _ H1.out).mono ?_
  rintro e w23 ⟨rfl, c23⟩
  have HA := Lib.hid (HA.out.later c23)
  have CX := Lib.hid (CX.out.trans (c23.mono CX.out.size))
  clear c23
  obtain ⟨x0, x1, x2, y0, y1, y2⟩ := HA.out.cellsX
  obtain ⟨a0, a1, b0, b1⟩ := HA.out.cellsT
  go_wp2_with fail
  refine (fits_any kb sb false yn yv ys _ _ H2.out).mono ?_
  rintro e w24 ⟨rfl, c24⟩
  have HA := Lib.hid (HA.out.later c24)
  have CX := Lib.hid (CX.out.trans (c24.mono CX.out.size))
  clear c24
  clear x0 x1 x2 y0 y1 y2 a0 a1 b0 b1
  obtain ⟨x0, x1, x2, y0, y1, y2⟩ := HA.out.cellsX
  obtain ⟨a0, a1, b0, b1⟩ := HA.out.cellsT
  go_wp2_with fail
  refine (num_any ka sa _ _ HNA.out).mono ?_
  rintro e w25 ⟨rfl, c25⟩
  have HA := Lib.hid (HA.out.later c25)
  have CX := Lib.hid (CX.out.trans (c25.mono CX.out.size))
  clear c25
  clear x0 x1 x2 y0 y1 y2 a0 a1 b0 b1
  obtain ⟨x0, x1, x2, y0, y1, y2⟩ := HA.out.cellsX
  obtain ⟨a0, a1, b0, b1⟩ := HA.out.cellsT
  go_wp2_with fail
  refine (num_any kb sb _ _ HNB.out).mono ?_
  rintro e w26 ⟨rfl, c26⟩
  have HA := Lib.hid (HA.out.later c26)
  have CX := Lib.hid (CX.out.trans (c26.mono CX.out.size))
  clear c26
  clear x0 x1 x2 y0 y1 y2 a0 a1 b0 b1
  obtain ⟨x0, x1, x2, y0, y1, y2⟩ := HA.out.cellsX
  obtain ⟨a0, a1, b0, b1⟩ := HA.out.cellsT
  have hx := (show HeldC w xv yv sa sb _ from ⟨x1, y1, a1, b1, CX.out⟩)
  go_upto_region 4 with fail
  obtain ⟨W3, hW3⟩ : ∃ W3, w26 = W3 := ⟨_, rfl⟩
  rw [hW3] at hx ⊢
  have HX := Lib.hid (show HeldC w xv yv sa sb W3.drew from ⟨hx.1, hx.2.1, hx.2.2.1, hx.2.2.2.1, hx.2.2.2.2.drew⟩)
  clear hx HA CX hW3 x0 x1 x2 y0 y1 y2 a0 a1 b0 b1
  have wj := WJ.out
  have wk := WK.out
  go_region_held3 (fun W => HeldC w xv yv sa sb W) (first | assumption | exact k8 (by assumption) | exact k7 (by assumption) | exact k6 (by assumption) | exact k5 (by assumption) | exact k4 (by assumption) | exact HX.out)
    (first
      | (go_at_call 28; (with_reducible refine (KX.out _).mono ?_); rintro e W4 ⟨rfl, c4⟩; have k4 := fun h => heldC_later (w := w) (xv := xv) (yv := yv) (sa := sa) (sb := sb) c4 h)
      | (go_at_call 30; (with_reducible refine (K1.out _).mono ?_); rintro e W9 ⟨rfl, rfl⟩)
      | (go_at_call 29; (with_reducible refine (M1.out _).mono ?_); rintro e W5 ⟨hi, lo, hp, hl, rfl, c5⟩; have k5 := fun h => heldC_later (w := w) (xv := xv) (yv := yv) (sa := sa) (sb := sb) c5 h)
      | (go_at_call 28; (with_reducible refine (KY.out _).mono ?_); rintro e W6 ⟨rfl, c6⟩; have k6 := fun h => heldC_later (w := w) (xv := xv) (yv := yv) (sa := sa) (sb := sb) c6 h)
      | (go_at_call 30; (with_reducible refine (K2.out _).mono ?_); rintro e W9 ⟨rfl, rfl⟩)
      | (go_at_call 29; (with_reducible refine (M2.out _).mono ?_); rintro e W7 ⟨hi2, lo2, hp2, hl2, rfl, c7⟩; have k7 := fun h => heldC_later (w := w) (xv := xv) (yv := yv) (sa := sa) (sb := sb) c7 h)
      | (go_at_call 31; (with_reducible refine (wcmp_c hp hl hp2 hl2 (B1.out _ _ hp) (B2.out _ _ hp2) HC.out _).mono ?_); rintro e W8 ⟨rfl, c8⟩; have k8 := fun h => heldC_later (w := w) (xv := xv) (yv := yv) (sa := sa) (sb := sb) c8 h))
  all_goals
    go_wp2_with fail
    go_ret2
    exact ⟨rfl, (‹HeldC w xv yv sa sb _›).2.2.2.2⟩
set_option maxRecDepth 100000 in
set_option maxHeartbeats 4000000 in
theorem cp_same (xn : Bool) (xv : Int) (xs : ByteArray) (yn : Bool) (yv : Int) (ys : ByteArray) (ka sa kb sb : Int) (w : World) (h1 : fitsB ⟨ka, sa⟩ false ⟨xn, xv, xs⟩ = true) (h2 : fitsB ⟨kb, sb⟩ false ⟨yn, yv, ys⟩ = true) (hna : numB ⟨ka, sa⟩ = false) (hek : (ka == kb) = true) (hes : (sa == sb) = true) : Calls Tryz.prog 7 #[.agg #[.bool xn, .int .i64 xv, .string xs], .agg #[.bool yn, .int .i64 yv, .string ys], .agg #[.int .i64 ka, .int .i64 sa], .agg #[.int .i64 kb, .int .i64 sb]] w (CmpS w (some (orI (cmpS xs.data.toList ys.data.toList) (cmpI xv yv)))) := by
  have H1 := Lib.hid h1
  clear h1
  have H2 := Lib.hid h2
  clear h2
  have HNA := Lib.hid hna
  clear hna
  have ek : (ka == kb) = true := hek
  have es : (sa == sb) = true := hes
  clear hek hes
  obtain ⟨c, hc⟩ : ∃ c, cmpS xs.data.toList ys.data.toList = c := ⟨_, rfl⟩
  obtain ⟨d, hd⟩ : ∃ d, cmpI xv yv = d := ⟨_, rfl⟩
  obtain ⟨S, hS⟩ : ∃ S, orI c d = S := ⟨_, rfl⟩
  rw [hc, hd, hS]
  have HS := Lib.hid hS
  have HK1 := Lib.hid (show ∀ W, Calls Tryz.prog 33 #[.string xs, .string ys] W fun e w' => e = .returned (.int .i64 c) ∧ w' = W from fun W => (cmp_s xs ys W).mono fun e w' he => ⟨by rw [he.1, hc], he.2.symm⟩)
  have HK2 := Lib.hid (show ∀ W, Calls Tryz.prog 34 #[.int .i64 xv, .int .i64 yv] W fun e w' => e = .returned (.int .i64 d) ∧ w' = W from fun W => (cmp_i xv yv W).mono fun e w' he => ⟨by rw [he.1, hd], he.2.symm⟩)
  clear hc hd hS
  obtain ⟨hA0, hB0⟩ := args4_at w ⟨xn, xv, xs⟩ ⟨yn, yv, ys⟩ ⟨ka, sa⟩ ⟨kb, sb⟩
  have HA := Lib.hid hA0
  have CX := Lib.hid hB0
  clear hA0 hB0
  go_enter Tryz.func7, Tryz.ntmps7
  go_wp2_with fail
  refine (fits_any ka sa false xn xv xs _ _ H1.out).mono ?_
  rintro e w6 ⟨rfl, c6⟩
  have HA := Lib.hid (HA.out.later c6)
  have CX := Lib.hid (CX.out.trans (c6.mono CX.out.size))
  clear c6
  obtain ⟨x0, x1, x2, y0, y1, y2⟩ := HA.out.cellsX
  obtain ⟨a0, a1, b0, b1⟩ := HA.out.cellsT
  go_wp2_with fail
  refine (fits_any kb sb false yn yv ys _ _ H2.out).mono ?_
  rintro e w7 ⟨rfl, c7⟩
  have HA := Lib.hid (HA.out.later c7)
  have CX := Lib.hid (CX.out.trans (c7.mono CX.out.size))
  clear c7
  clear x0 x1 x2 y0 y1 y2 a0 a1 b0 b1
  obtain ⟨x0, x1, x2, y0, y1, y2⟩ := HA.out.cellsX
  obtain ⟨a0, a1, b0, b1⟩ := HA.out.cellsT
  go_wp2_with fail
  refine (num_any ka sa _ _ HNA.out).mono ?_
  rintro e w8 ⟨rfl, c8⟩
  have HA := Lib.hid (HA.out.later c8)
  have CX := Lib.hid (CX.out.trans (c8.mono CX.out.size))
  clear c8
  clear x0 x1 x2 y0 y1 y2 a0 a1 b0 b1
  obtain ⟨x0, x1, x2, y0, y1, y2⟩ := HA.out.cellsX
  obtain ⟨a0, a1, b0, b1⟩ := HA.out.cellsT
  go_wp2_with fail
  refine (num_any ka sa _ _ HNA.out).mono ?_
  rintro e w9 ⟨rfl, c9⟩
  have HA := Lib.hid (HA.out.later c9)
  have CX := Lib.hid (CX.out.trans (c9.mono CX.out.size))
  clear c9
  clear x0 x1 x2 y0 y1 y2 a0 a1 b0 b1
  obtain ⟨x0, x1, x2, y0, y1, y2⟩ := HA.out.cellsX
  obtain ⟨a0, a1, b0, b1⟩ := HA.out.cellsT
  go_upto_region 7 with fail
  have hz : w9.heap.size = w9.heap.size := rfl
  clear hz
  go_still_tail 10, (by kernel_rfl)
  still_call (HK1.out _)
  repeat still_step
  still_call (HK2.out _)
  repeat still_step
  refine wpStill_nil ?_
  change wpList _ _ _ _ _ (World.drew _)
  go_wp2_with fail
  refine (or_any c d _ _ (by simp) (by simp)).mono ?_
  rintro e w' ⟨rfl, rfl⟩
  rw [HS.out]
  go_wp2_with fail
  go_ret2
  exact ⟨rfl, CX.out.drew.alloc (by have := CX.out.size; exact this) _⟩
theorem fits_num {t : Ty} {x : Va} (h : numB t = true) : fitsB t false x = true → True := fun _ => trivial
theorem compare_any (x y : Va) (ta tb : Ty) (hx : I64 x.n) (hy : I64 y.n) (w : World) (o : Option Int) (ho : cmpP x y ta tb = o) : Calls Tryz.prog 7 #[.agg #[.bool x.null, .int .i64 x.n, .string x.s], .agg #[.bool y.null, .int .i64 y.n, .string y.s], .agg #[.int .i64 ta.kind, .int .i64 ta.scale], .agg #[.int .i64 tb.kind, .int .i64 tb.scale]] w (CmpS w o) := by
  obtain ⟨xn, xv, xs⟩ := x
  obtain ⟨yn, yv, ys⟩ := y
  obtain ⟨ka, sa⟩ := ta
  obtain ⟨kb, sb⟩ := tb
  unfold cmpP at ho
  cases h1 : fitsB ⟨ka, sa⟩ false ⟨xn, xv, xs⟩ with
  | false =>
    rw [h1] at ho
    subst ho
    exact cp_fx xn xv xs yn yv ys ka sa kb sb w h1
  | true =>
    cases h2 : fitsB ⟨kb, sb⟩ false ⟨yn, yv, ys⟩ with
    | false =>
      rw [h1, h2] at ho
      subst ho
      exact cp_fy xn xv xs yn yv ys ka sa kb sb w h1 h2
    | true =>
      rw [h1, h2] at ho
      simp only [Bool.not_true, Bool.or_self, Bool.false_eq_true, if_false] at ho
      have hne : ∀ (h : numB ⟨ka, sa⟩ ≠ numB ⟨kb, sb⟩), (ka == kb) = false ∨ ((ka == kb) = true ∧ (sa == sb) = false) := fun h => by
        cases hk : (ka == kb)
        · exact .inl rfl
        · cases hs : (sa == sb)
          · exact .inr ⟨rfl, rfl⟩
          · have e1 : ka = kb := by simpa using hk
            have e2 : sa = sb := by simpa using hs
            subst e1; subst e2
            exact absurd rfl h
      cases hna : numB ⟨ka, sa⟩ with
      | true =>
        cases hnb : numB ⟨kb, sb⟩ with
        | true =>
          rw [hna, hnb] at ho
          simp only [Bool.and_self, if_true] at ho
          subst ho
          obtain ⟨a0, a9, _⟩ := num_range hna
          obtain ⟨b0, b9, _⟩ := num_range hnb
          exact cp_num xn xv xs yn yv ys ka sa kb sb w h1 h2 hna hnb hx hy ⟨a0, a9⟩ ⟨b0, b9⟩
        | false =>
          rw [hna, hnb] at ho
          simp only [Bool.and_false, Bool.false_eq_true, if_false, Bool.or_true, if_true] at ho
          subst ho
          rcases hne (by rw [hna, hnb]; decide) with hk | ⟨hk, hs⟩
          · exact cp_na_fx xn xv xs yn yv ys ka sa kb sb w h1 h2 hna hnb hk
          · exact cp_na_tf xn xv xs yn yv ys ka sa kb sb w h1 h2 hna hnb hk hs
      | false =>
        rw [hna] at ho
        simp only [Bool.false_and, Bool.false_eq_true, if_false, Bool.or_false] at ho
        cases hk : (ka == kb) with
        | false =>
          rw [show (ka != kb) = true by rw [bne, hk]; rfl] at ho
          subst ho
          exact cp_nb_fx xn xv xs yn yv ys ka sa kb sb w h1 h2 hna hk
        | true =>
          rw [show (ka != kb) = false by rw [bne, hk]; rfl] at ho
          cases hs : (sa == sb) with
          | false =>
            rw [show (sa != sb) = true by rw [bne, hs]; rfl] at ho
            subst ho
            exact cp_nb_tf xn xv xs yn yv ys ka sa kb sb w h1 h2 hna hk hs
          | true =>
            rw [show (sa != sb) = false by rw [bne, hs]; rfl] at ho
            simp only [Bool.or_self, Bool.false_eq_true, if_false] at ho
            subst ho
            have h9 := cp_same xn xv xs yn yv ys ka sa kb sb w h1 h2 hna hk hs
            rw [show orI (cmpS xs.data.toList ys.data.toList) (cmpI xv yv) = (if cmpS xs.data.toList ys.data.toList ≠ 0 then cmpS xs.data.toList ys.data.toList else cmpI xv yv) by unfold orI; by_cases h : cmpS xs.data.toList ys.data.toList = 0 <;> simp [h]] at h9
            exact h9
end Go.Proofs.YtekpdcofjhdiiaaGreatDoor.Val
