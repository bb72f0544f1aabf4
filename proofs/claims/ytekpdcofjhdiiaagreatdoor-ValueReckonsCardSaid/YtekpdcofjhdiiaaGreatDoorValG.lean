/-
  Arith of chapter 10. No condition beyond what each theorem names.
-/
import Derived.Test.YtekpdcofjhdiiaaGreatDoorValF
namespace Go.Proofs.YtekpdcofjhdiiaaGreatDoor.Val
open Go.RowKit Go.Maps
set_option linter.unusedVariables false
set_option linter.unusedSimpArgs false
def vaO (x : Va) : Obj := .cells #[.bool x.null, .int .i64 x.n, .string x.s] 23 (0, 0)
def tyO (t : Ty) : Obj := .cells #[.int .i64 t.kind, .int .i64 t.scale] 25 (0, 0)
/-- two values, their types, and what is answered, in blocks from b on -/
def AAt (W : World) (b : Nat) (x y : Va) (ta tb : Ty) : Prop := W.heap[b]? = some (vaO x) ∧ W.heap[b + 1]? = some (vaO y) ∧ W.heap[b + 1 + 1]? = some (tyO ta) ∧ W.heap[b + 1 + 1 + 1]? = some (tyO tb) ∧ W.heap[b + 1 + 1 + 1 + 1]? = some (vaO noVa)
theorem AAt.later {W W' : World} {b : Nat} {x y : Va} {ta tb : Ty} (h : AAt W b x y ta tb) (c : Below W.heap.size W W') : AAt W' b x y ta tb := by
  obtain ⟨h0, h1, h2, h3, h4⟩ := h
  exact ⟨(c.block _ (Array.getElem?_eq_some_iff.1 h0).1).trans h0, (c.block _ (Array.getElem?_eq_some_iff.1 h1).1).trans h1, (c.block _ (Array.getElem?_eq_some_iff.1 h2).1).trans h2, (c.block _ (Array.getElem?_eq_some_iff.1 h3).1).trans h3, (c.block _ (Array.getElem?_eq_some_iff.1 h4).1).trans h4⟩
theorem AAt.cellsX {W : World} {b : Nat} {x y : Va} {ta tb : Ty} (h : AAt W b x y ta tb) : W.cell? ⟨b, 0, none⟩ = some (.bool x.null) ∧ W.cell? ⟨b, 1, none⟩ = some (.int .i64 x.n) ∧ W.cell? ⟨b, 2, none⟩ = some (.string x.s) ∧ (∀ j, W.frozen? ⟨b, j, none⟩ = false) ∧ W.cell? ⟨b + 1, 0, none⟩ = some (.bool y.null) ∧ W.cell? ⟨b + 1, 1, none⟩ = some (.int .i64 y.n) ∧ W.cell? ⟨b + 1, 2, none⟩ = some (.string y.s) ∧ (∀ j, W.frozen? ⟨b + 1, j, none⟩ = false) := by
  obtain ⟨h0, h1, h2, h3, h4⟩ := h
  exact ⟨cell_of_row W _ 0 _ _ _ h0, cell_of_row W _ 1 _ _ _ h0, cell_of_row W _ 2 _ _ _ h0, fun j => frozen_of_row W _ j _ _ h0, cell_of_row W _ 0 _ _ _ h1, cell_of_row W _ 1 _ _ _ h1, cell_of_row W _ 2 _ _ _ h1, fun j => frozen_of_row W _ j _ _ h1⟩
theorem AAt.cellsT {W : World} {b : Nat} {x y : Va} {ta tb : Ty} (h : AAt W b x y ta tb) : W.cell? ⟨b + 1 + 1, 0, none⟩ = some (.int .i64 ta.kind) ∧ W.cell? ⟨b + 1 + 1, 1, none⟩ = some (.int .i64 ta.scale) ∧ W.cell? ⟨b + 1 + 1 + 1, 0, none⟩ = some (.int .i64 tb.kind) ∧ W.cell? ⟨b + 1 + 1 + 1, 1, none⟩ = some (.int .i64 tb.scale) := by
  obtain ⟨h0, h1, h2, h3, h4⟩ := h
  exact ⟨cell_of_row W _ 0 _ _ _ h2, cell_of_row W _ 1 _ _ _ h2, cell_of_row W _ 0 _ _ _ h3, cell_of_row W _ 1 _ _ _ h3⟩
theorem AAt.cellsR {W : World} {b : Nat} {x y : Va} {ta tb : Ty} (h : AAt W b x y ta tb) : W.cell? ⟨b + 1 + 1 + 1 + 1, 0, none⟩ = some (.bool false) ∧ W.cell? ⟨b + 1 + 1 + 1 + 1, 1, none⟩ = some (.int .i64 0) ∧ W.cell? ⟨b + 1 + 1 + 1 + 1, 2, none⟩ = some (.string ⟨#[]⟩) ∧ (∀ j, W.frozen? ⟨b + 1 + 1 + 1 + 1, j, none⟩ = false) := by
  obtain ⟨h0, h1, h2, h3, h4⟩ := h
  exact ⟨cell_of_row W _ 0 _ _ _ h4, cell_of_row W _ 1 _ _ _ h4, cell_of_row W _ 2 _ _ _ h4, fun j => frozen_of_row W _ j _ _ h4⟩
theorem row_set {w : World} {bb : Nat} {cs : Array Value} {t : TypeId} {f : Nat × Nat} (h : w.heap[bb]? = some (.cells cs t f)) (j : Nat) (u : Value) : (w.setCell ⟨bb, j, none⟩ u).heap[bb]? = some (.cells (cs.setIfInBounds j u) t f) := by
  obtain ⟨lo, hi⟩ := f
  simp only [World.setCell, Array.getElem?_modify, h]
  simp
theorem AAt.setX {W : World} {b : Nat} {x y : Va} {ta tb : Ty} (h : AAt W b x y ta tb) (n : Int) : AAt (W.setCell ⟨b, 1, none⟩ (.int .i64 n)) b { x with n := n } y ta tb := by
  obtain ⟨h0, h1, h2, h3, h4⟩ := h
  have o : ∀ k, k ≠ b → (W.setCell ⟨b, 1, none⟩ (.int .i64 n)).heap[k]? = W.heap[k]? := fun k hk => Below.heap_setCell _ _ _ _ hk
  exact ⟨row_set h0 1 _, (o _ (by omega)).trans h1, (o _ (by omega)).trans h2, (o _ (by omega)).trans h3, (o _ (by omega)).trans h4⟩
theorem AAt.setY {W : World} {b : Nat} {x y : Va} {ta tb : Ty} (h : AAt W b x y ta tb) (n : Int) : AAt (W.setCell ⟨b + 1, 1, none⟩ (.int .i64 n)) b x { y with n := n } ta tb := by
  obtain ⟨h0, h1, h2, h3, h4⟩ := h
  have o : ∀ k, k ≠ b + 1 → (W.setCell ⟨b + 1, 1, none⟩ (.int .i64 n)).heap[k]? = W.heap[k]? := fun k hk => Below.heap_setCell _ _ _ _ hk
  exact ⟨(o _ (by omega)).trans h0, row_set h1 1 _, (o _ (by omega)).trans h2, (o _ (by omega)).trans h3, (o _ (by omega)).trans h4⟩
def args5 (w : World) (x y : Va) (ta tb : Ty) : World := ((((w.alloc (vaO x)).alloc (vaO y)).alloc (tyO ta)).alloc (tyO tb)).alloc (vaO noVa)
theorem alloc_later {w w1 : World} {o o' : Obj} {b : Nat} (h : w1.heap[b]? = some o) : (w1.alloc o').heap[b]? = some o := by
  have hb := (Array.getElem?_eq_some_iff.1 h).1
  exact (((Below.refl w1.heap.size w1).alloc (Nat.le_refl _) o').block b hb).trans h
theorem alloc_at (w1 : World) (o : Obj) (n : Nat) (h : w1.heap.size = n) : (w1.alloc o).heap[n]? = some o := by subst h; exact heap_alloc_new w1 o
theorem args5_at (w : World) (x y : Va) (ta tb : Ty) : AAt (args5 w x y ta tb) w.heap.size x y ta tb ∧ Below w.heap.size w (args5 w x y ta tb) ∧ (args5 w x y ta tb).heap.size = w.heap.size + 1 + 1 + 1 + 1 + 1 := by
  unfold args5
  refine ⟨⟨alloc_later (w := w) (alloc_later (w := w) (alloc_later (w := w) (alloc_later (w := w) (alloc_at _ _ _ rfl)))), alloc_later (w := w) (alloc_later (w := w) (alloc_later (w := w) (alloc_at _ _ _ (by simp)))), alloc_later (w := w) (alloc_later (w := w) (alloc_at _ _ _ (by simp))), alloc_later (w := w) (alloc_at _ _ _ (by simp)), alloc_at _ _ _ (by simp)⟩, ?_, by simp⟩
  exact (((((Below.refl _ _).alloc (Nat.le_refl _) _).alloc (by simp) _).alloc (by simp; omega) _).alloc (by simp; omega) _).alloc (by simp; omega) _
def ArS (w : World) (r : Va) (e1 : Int) (e : Ending) (w' : World) : Prop := e = .returned (.tuple #[.agg #[.bool r.null, .int .i64 r.n, .string r.s], .int .i64 e1]) ∧ Below w.heap.size w w'
theorem ar_end {w w1 : World} (r : Va) (e1 : Int) (c : Below w.heap.size w w1) (u0 u1 u2 : Value) : ArS w r e1 (.returned (.tuple #[.agg #[.bool r.null, .int .i64 r.n, .string r.s], .int .i64 e1])) (((w1.setCell ⟨w.heap.size + 1 + 1 + 1 + 1, 0, none⟩ u0).setCell ⟨w.heap.size + 1 + 1 + 1 + 1, 1, none⟩ u1).setCell ⟨w.heap.size + 1 + 1 + 1 + 1, 2, none⟩ u2) :=
  ⟨rfl, ((c.setCell (by simp; omega) _).setCell (by simp; omega) _).setCell (by simp; omega) _⟩
theorem tyO_set {W : World} {b T j : Nat} {t : Ty} {u : Value} (h : W.heap[T]? = some (tyO t)) (hne : T ≠ b) : (W.setCell ⟨b, j, none⟩ u).heap[T]? = some (tyO t) := (Below.heap_setCell _ _ _ _ hne).trans h
theorem tyO_later {W W' : World} {T : Nat} {t : Ty} (h : W.heap[T]? = some (tyO t)) (c : Below W.heap.size W W') : W'.heap[T]? = some (tyO t) := (c.block _ (Array.getElem?_eq_some_iff.1 h).1).trans h
set_option maxRecDepth 100000 in
set_option maxHeartbeats 4000000 in
theorem ar_ty (op : UInt8) (xn : Bool) (xv : Int) (xs : ByteArray) (yn : Bool) (yv : Int) (ys : ByteArray) (ka sa kb sb : Int) (w : World) (h0 : arithTy op ⟨ka, sa⟩ ⟨kb, sb⟩ = none) : Calls Tryz.prog 5 #[.int .u8 (op.toNat : Int), .agg #[.bool xn, .int .i64 xv, .string xs], .agg #[.bool yn, .int .i64 yv, .string ys], .agg #[.int .i64 ka, .int .i64 sa], .agg #[.int .i64 kb, .int .i64 sb]] w (ArS w noVa 4) := by
  have HT0 := Lib.hid h0
  clear h0
  obtain ⟨hA0, hB0, hS0⟩ := args5_at w ⟨xn, xv, xs⟩ ⟨yn, yv, ys⟩ ⟨ka, sa⟩ ⟨kb, sb⟩
  have HA := Lib.hid hA0
  have CX := Lib.hid hB0
  clear hA0 hB0 hS0
  go_enter Tryz.func5, Tryz.ntmps5
  go_wp2_with fail
  refine (aty_any op ka sa kb sb _ _ HT0.out).mono ?_
  rintro e wA ⟨rfl, cA⟩
  have HA := Lib.hid (HA.out.later cA)
  have CX := Lib.hid (CX.out.trans (cA.mono CX.out.size))
  clear cA
  have hlt : w.heap.size + 1 + 1 + 1 + 1 < wA.heap.size := (Array.getElem?_eq_some_iff.1 HA.out.2.2.2.2).1
  have HT := Lib.hid (show (wA.alloc (.cells #[.int .i64 0, .int .i64 0] 25)).heap[wA.heap.size]? = some (tyO ⟨0, 0⟩) from alloc_at _ _ _ rfl)
  have HA := Lib.hid (HA.out.later ((Below.refl _ _).alloc (Nat.le_refl _) (.cells #[.int .i64 0, .int .i64 0] 25)))
  have CX := Lib.hid (CX.out.alloc CX.out.size (.cells #[.int .i64 0, .int .i64 0] 25))
  obtain ⟨Tb, hTb⟩ : ∃ Tb, wA.heap.size = Tb := ⟨_, rfl⟩
  have HTL := Lib.hid (show w.heap.size + 1 + 1 + 1 + 1 < Tb by omega)
  go_upto_region 2 with fail
  obtain ⟨W1, hW1⟩ : ∃ W1, wA.alloc (.cells #[.int .i64 0, .int .i64 0] 25) = W1 := ⟨_, rfl⟩
  rw [hTb, hW1] at HT
  rw [hW1] at HA CX
  rw [hW1]
  (try rw [hTb])
  clear hTb hW1 hlt
  obtain ⟨x0, x1, x2, fx, y0, y1, y2, fy⟩ := HA.out.cellsX
  obtain ⟨a0, a1, b0, b1⟩ := HA.out.cellsT
  obtain ⟨r0, r1, r2, fr⟩ := HA.out.cellsR
  have t1 := cell_of_row W1 Tb 1 _ _ _ HT.out
  go_wp2_with fail
  exact bodyPost_ret (v := .tuple #[.agg #[.bool false, .int .i64 0, .string ⟨#[]⟩], .int .i64 4]) (by simp [results, Tryz.results5, go_sem, r0, r1, r2, fr]) rfl (ar_end noVa 4 CX.out _ _ _)
set_option maxRecDepth 100000 in
set_option maxHeartbeats 4000000 in
theorem ar_fx (op : UInt8) (xn : Bool) (xv : Int) (xs : ByteArray) (yn : Bool) (yv : Int) (ys : ByteArray) (ka sa kb sb : Int) (w : World)  (s : Int) (h0 : arithTy op ⟨ka, sa⟩ ⟨kb, sb⟩ = some s) (h1 : fitsB ⟨ka, sa⟩ true ⟨xn, xv, xs⟩ = false) : Calls Tryz.prog 5 #[.int .u8 (op.toNat : Int), .agg #[.bool xn, .int .i64 xv, .string xs], .agg #[.bool yn, .int .i64 yv, .string ys], .agg #[.int .i64 ka, .int .i64 sa], .agg #[.int .i64 kb, .int .i64 sb]] w (ArS w noVa 1) := by
  have HT0 := Lib.hid h0
  clear h0
  have H1 := Lib.hid h1
  clear h1
  obtain ⟨hA0, hB0, hS0⟩ := args5_at w ⟨xn, xv, xs⟩ ⟨yn, yv, ys⟩ ⟨ka, sa⟩ ⟨kb, sb⟩
  have HA := Lib.hid hA0
  have CX := Lib.hid hB0
  clear hA0 hB0 hS0
  go_enter Tryz.func5, Tryz.ntmps5
  go_wp2_with fail
  refine (aty_any op ka sa kb sb _ _ HT0.out).mono ?_
  rintro e wA ⟨rfl, cA⟩
  have HA := Lib.hid (HA.out.later cA)
  have CX := Lib.hid (CX.out.trans (cA.mono CX.out.size))
  obtain ⟨K, hK⟩ : ∃ K, (typed s).kind = K := ⟨_, rfl⟩
  rw [hK, typed_scale]
  clear hK
  clear cA
  have hlt : w.heap.size + 1 + 1 + 1 + 1 < wA.heap.size := (Array.getElem?_eq_some_iff.1 HA.out.2.2.2.2).1
  have HT := Lib.hid (show (wA.alloc (.cells #[.int .i64 K, .int .i64 s] 25)).heap[wA.heap.size]? = some (tyO ⟨K, s⟩) from alloc_at _ _ _ rfl)
  have HA := Lib.hid (HA.out.later ((Below.refl _ _).alloc (Nat.le_refl _) (.cells #[.int .i64 K, .int .i64 s] 25)))
  have CX := Lib.hid (CX.out.alloc CX.out.size (.cells #[.int .i64 K, .int .i64 s] 25))
  obtain ⟨Tb, hTb⟩ : ∃ Tb, wA.heap.size = Tb := ⟨_, rfl⟩
  have HTL := Lib.hid (show w.heap.size + 1 + 1 + 1 + 1 < Tb by omega)
  go_upto_region 2 with fail
  obtain ⟨W1, hW1⟩ : ∃ W1, wA.alloc (.cells #[.int .i64 K, .int .i64 s] 25) = W1 := ⟨_, rfl⟩
  rw [hTb, hW1] at HT
  rw [hW1] at HA CX
  rw [hW1]
  (try rw [hTb])
  clear hTb hW1 hlt
  obtain ⟨x0, x1, x2, fx, y0, y1, y2, fy⟩ := HA.out.cellsX
  obtain ⟨a0, a1, b0, b1⟩ := HA.out.cellsT
  obtain ⟨r0, r1, r2, fr⟩ := HA.out.cellsR
  have t1 := cell_of_row W1 Tb 1 _ _ _ HT.out
  go_wp2_with fail
  refine (fits_any ka sa true xn xv xs _ _ H1.out).mono ?_
  rintro e w6 ⟨rfl, c6⟩
  have HA := Lib.hid (HA.out.later c6)
  have CX := Lib.hid (CX.out.trans (c6.mono CX.out.size))
  have HT := Lib.hid (tyO_later HT.out c6)
  clear c6 t1
  clear x0 x1 x2 fx y0 y1 y2 fy a0 a1 b0 b1 r0 r1 r2 fr
  obtain ⟨x0, x1, x2, fx, y0, y1, y2, fy⟩ := HA.out.cellsX
  obtain ⟨a0, a1, b0, b1⟩ := HA.out.cellsT
  obtain ⟨r0, r1, r2, fr⟩ := HA.out.cellsR
  have t1 := cell_of_row w6 Tb 1 _ _ _ HT.out
  go_wp2_with fail
  exact bodyPost_ret (v := .tuple #[.agg #[.bool false, .int .i64 0, .string ⟨#[]⟩], .int .i64 1]) (by simp [results, Tryz.results5, go_sem, r0, r1, r2, fr]) rfl (ar_end noVa 1 CX.out _ _ _)
set_option maxRecDepth 100000 in
set_option maxHeartbeats 4000000 in
theorem ar_fy (op : UInt8) (xn : Bool) (xv : Int) (xs : ByteArray) (yn : Bool) (yv : Int) (ys : ByteArray) (ka sa kb sb : Int) (w : World)  (s : Int) (h0 : arithTy op ⟨ka, sa⟩ ⟨kb, sb⟩ = some s) (h1 : fitsB ⟨ka, sa⟩ true ⟨xn, xv, xs⟩ = true) (h2 : fitsB ⟨kb, sb⟩ true ⟨yn, yv, ys⟩ = false) : Calls Tryz.prog 5 #[.int .u8 (op.toNat : Int), .agg #[.bool xn, .int .i64 xv, .string xs], .agg #[.bool yn, .int .i64 yv, .string ys], .agg #[.int .i64 ka, .int .i64 sa], .agg #[.int .i64 kb, .int .i64 sb]] w (ArS w noVa 1) := by
  have HT0 := Lib.hid h0
  clear h0
  have H1 := Lib.hid h1
  clear h1
  have H2 := Lib.hid h2
  clear h2
  obtain ⟨hA0, hB0, hS0⟩ := args5_at w ⟨xn, xv, xs⟩ ⟨yn, yv, ys⟩ ⟨ka, sa⟩ ⟨kb, sb⟩
  have HA := Lib.hid hA0
  have CX := Lib.hid hB0
  clear hA0 hB0 hS0
  go_enter Tryz.func5, Tryz.ntmps5
  go_wp2_with fail
  refine (aty_any op ka sa kb sb _ _ HT0.out).mono ?_
  rintro e wA ⟨rfl, cA⟩
  have HA := Lib.hid (HA.out.later cA)
  have CX := Lib.hid (CX.out.trans (cA.mono CX.out.size))
  obtain ⟨K, hK⟩ : ∃ K, (typed s).kind = K := ⟨_, rfl⟩
  rw [hK, typed_scale]
  clear hK
  clear cA
  have hlt : w.heap.size + 1 + 1 + 1 + 1 < wA.heap.size := (Array.getElem?_eq_some_iff.1 HA.out.2.2.2.2).1
  have HT := Lib.hid (show (wA.alloc (.cells #[.int .i64 K, .int .i64 s] 25)).heap[wA.heap.size]? = some (tyO ⟨K, s⟩) from alloc_at _ _ _ rfl)
  have HA := Lib.hid (HA.out.later ((Below.refl _ _).alloc (Nat.le_refl _) (.cells #[.int .i64 K, .int .i64 s] 25)))
  have CX := Lib.hid (CX.out.alloc CX.out.size (.cells #[.int .i64 K, .int .i64 s] 25))
  obtain ⟨Tb, hTb⟩ : ∃ Tb, wA.heap.size = Tb := ⟨_, rfl⟩
  have HTL := Lib.hid (show w.heap.size + 1 + 1 + 1 + 1 < Tb by omega)
  go_upto_region 2 with fail
  obtain ⟨W1, hW1⟩ : ∃ W1, wA.alloc (.cells #[.int .i64 K, .int .i64 s] 25) = W1 := ⟨_, rfl⟩
  rw [hTb, hW1] at HT
  rw [hW1] at HA CX
  rw [hW1]
  (try rw [hTb])
  clear hTb hW1 hlt
  obtain ⟨x0, x1, x2, fx, y0, y1, y2, fy⟩ := HA.out.cellsX
  obtain ⟨a0, a1, b0, b1⟩ := HA.out.cellsT
  obtain ⟨r0, r1, r2, fr⟩ := HA.out.cellsR
  have t1 := cell_of_row W1 Tb 1 _ _ _ HT.out
  go_wp2_with fail
  refine (fits_any ka sa true xn xv xs _ _ H1.out).mono ?_
  rintro e w7 ⟨rfl, c7⟩
  have HA := Lib.hid (HA.out.later c7)
  have CX := Lib.hid (CX.out.trans (c7.mono CX.out.size))
  have HT := Lib.hid (tyO_later HT.out c7)
  clear c7 t1
  clear x0 x1 x2 fx y0 y1 y2 fy a0 a1 b0 b1 r0 r1 r2 fr
  obtain ⟨x0, x1, x2, fx, y0, y1, y2, fy⟩ := HA.out.cellsX
  obtain ⟨a0, a1, b0, b1⟩ := HA.out.cellsT
  obtain ⟨r0, r1, r2, fr⟩ := HA.out.cellsR
  have t1 := cell_of_row w7 Tb 1 _ _ _ HT.out
  go_wp2_with fail
  refine (fits_any kb sb true yn yv ys _ _ H2.out).mono ?_
  rintro e w8 ⟨rfl, c8⟩
  have HA := Lib.hid (HA.out.later c8)
  have CX := Lib.hid (CX.out.trans (c8.mono CX.out.size))
  have HT := Lib.hid (tyO_later HT.out c8)
  clear c8 t1
  clear x0 x1 x2 fx y0 y1 y2 fy a0 a1 b0 b1 r0 r1 r2 fr
  obtain ⟨x0, x1, x2, fx, y0, y1, y2, fy⟩ := HA.out.cellsX
  obtain ⟨a0, a1, b0, b1⟩ := HA.out.cellsT
  obtain ⟨r0, r1, r2, fr⟩ := HA.out.cellsR
  have t1 := cell_of_row w8 Tb 1 _ _ _ HT.out
  go_wp2_with fail
  exact bodyPost_ret (v := .tuple #[.agg #[.bool false, .int .i64 0, .string ⟨#[]⟩], .int .i64 1]) (by simp [results, Tryz.results5, go_sem, r0, r1, r2, fr]) rfl (ar_end noVa 1 CX.out _ _ _)
set_option maxRecDepth 100000 in
set_option maxHeartbeats 4000000 in
theorem ar_nx (op : UInt8) (xn : Bool) (xv : Int) (xs : ByteArray) (yn : Bool) (yv : Int) (ys : ByteArray) (ka sa kb sb : Int) (w : World)  (s : Int) (h0 : arithTy op ⟨ka, sa⟩ ⟨kb, sb⟩ = some s) (h1 : fitsB ⟨ka, sa⟩ true ⟨xn, xv, xs⟩ = true) (h2 : fitsB ⟨kb, sb⟩ true ⟨yn, yv, ys⟩ = true) (hx : xn = true) : Calls Tryz.prog 5 #[.int .u8 (op.toNat : Int), .agg #[.bool xn, .int .i64 xv, .string xs], .agg #[.bool yn, .int .i64 yv, .string ys], .agg #[.int .i64 ka, .int .i64 sa], .agg #[.int .i64 kb, .int .i64 sb]] w (ArS w nullVa 0) := by
  have HT0 := Lib.hid h0
  clear h0
  have H1 := Lib.hid h1
  clear h1
  have H2 := Lib.hid h2
  clear h2
  subst hx
  obtain ⟨hA0, hB0, hS0⟩ := args5_at w ⟨true, xv, xs⟩ ⟨yn, yv, ys⟩ ⟨ka, sa⟩ ⟨kb, sb⟩
  have HA := Lib.hid hA0
  have CX := Lib.hid hB0
  clear hA0 hB0 hS0
  go_enter Tryz.func5, Tryz.ntmps5
  go_wp2_with fail
  refine (aty_any op ka sa kb sb _ _ HT0.out).mono ?_
  rintro e wA ⟨rfl, cA⟩
  have HA := Lib.hid (HA.out.later cA)
  have CX := Lib.hid (CX.out.trans (cA.mono CX.out.size))
  obtain ⟨K, hK⟩ : ∃ K, (typed s).kind = K := ⟨_, rfl⟩
  rw [hK, typed_scale]
  clear hK
  clear cA
  have hlt : w.heap.size + 1 + 1 + 1 + 1 < wA.heap.size := (Array.getElem?_eq_some_iff.1 HA.out.2.2.2.2).1
  have HT := Lib.hid (show (wA.alloc (.cells #[.int .i64 K, .int .i64 s] 25)).heap[wA.heap.size]? = some (tyO ⟨K, s⟩) from alloc_at _ _ _ rfl)
  have HA := Lib.hid (HA.out.later ((Below.refl _ _).alloc (Nat.le_refl _) (.cells #[.int .i64 K, .int .i64 s] 25)))
  have CX := Lib.hid (CX.out.alloc CX.out.size (.cells #[.int .i64 K, .int .i64 s] 25))
  obtain ⟨Tb, hTb⟩ : ∃ Tb, wA.heap.size = Tb := ⟨_, rfl⟩
  have HTL := Lib.hid (show w.heap.size + 1 + 1 + 1 + 1 < Tb by omega)
  go_upto_region 2 with fail
  obtain ⟨W1, hW1⟩ : ∃ W1, wA.alloc (.cells #[.int .i64 K, .int .i64 s] 25) = W1 := ⟨_, rfl⟩
  rw [hTb, hW1] at HT
  rw [hW1] at HA CX
  rw [hW1]
  (try rw [hTb])
  clear hTb hW1 hlt
  obtain ⟨x0, x1, x2, fx, y0, y1, y2, fy⟩ := HA.out.cellsX
  obtain ⟨a0, a1, b0, b1⟩ := HA.out.cellsT
  obtain ⟨r0, r1, r2, fr⟩ := HA.out.cellsR
  have t1 := cell_of_row W1 Tb 1 _ _ _ HT.out
  go_wp2_with fail
  refine (fits_any ka sa true true xv xs _ _ H1.out).mono ?_
  rintro e w9 ⟨rfl, c9⟩
  have HA := Lib.hid (HA.out.later c9)
  have CX := Lib.hid (CX.out.trans (c9.mono CX.out.size))
  have HT := Lib.hid (tyO_later HT.out c9)
  clear c9 t1
  clear x0 x1 x2 fx y0 y1 y2 fy a0 a1 b0 b1 r0 r1 r2 fr
  obtain ⟨x0, x1, x2, fx, y0, y1, y2, fy⟩ := HA.out.cellsX
  obtain ⟨a0, a1, b0, b1⟩ := HA.out.cellsT
  obtain ⟨r0, r1, r2, fr⟩ := HA.out.cellsR
  have t1 := cell_of_row w9 Tb 1 _ _ _ HT.out
  go_wp2_with fail
  refine (fits_any kb sb true yn yv ys _ _ H2.out).mono ?_
  rintro e w10 ⟨rfl, c10⟩
  have HA := Lib.hid (HA.out.later c10)
  have CX := Lib.hid (CX.out.trans (c10.mono CX.out.size))
  have HT := Lib.hid (tyO_later HT.out c10)
  clear c10 t1
  clear x0 x1 x2 fx y0 y1 y2 fy a0 a1 b0 b1 r0 r1 r2 fr
  obtain ⟨x0, x1, x2, fx, y0, y1, y2, fy⟩ := HA.out.cellsX
  obtain ⟨a0, a1, b0, b1⟩ := HA.out.cellsT
  obtain ⟨r0, r1, r2, fr⟩ := HA.out.cellsR
  have t1 := cell_of_row w10 Tb 1 _ _ _ HT.out
  go_wp2_with fail
  exact bodyPost_ret (v := .tuple #[.agg #[.bool true, .int .i64 0, .string ⟨#[]⟩], .int .i64 0]) (by simp [results, Tryz.results5, go_sem, r0, r1, r2, fr]) rfl (ar_end nullVa 0 CX.out _ _ _)
set_option maxRecDepth 100000 in
set_option maxHeartbeats 4000000 in
theorem ar_ny (op : UInt8) (xn : Bool) (xv : Int) (xs : ByteArray) (yn : Bool) (yv : Int) (ys : ByteArray) (ka sa kb sb : Int) (w : World)  (s : Int) (h0 : arithTy op ⟨ka, sa⟩ ⟨kb, sb⟩ = some s) (h1 : fitsB ⟨ka, sa⟩ true ⟨xn, xv, xs⟩ = true) (h2 : fitsB ⟨kb, sb⟩ true ⟨yn, yv, ys⟩ = true) (hx : xn = false) (hy : yn = true) : Calls Tryz.prog 5 #[.int .u8 (op.toNat : Int), .agg #[.bool xn, .int .i64 xv, .string xs], .agg #[.bool yn, .int .i64 yv, .string ys], .agg #[.int .i64 ka, .int .i64 sa], .agg #[.int .i64 kb, .int .i64 sb]] w (ArS w nullVa 0) := by
  have HT0 := Lib.hid h0
  clear h0
  have H1 := Lib.hid h1
  clear h1
  have H2 := Lib.hid h2
  clear h2
  subst hx
  subst hy
  obtain ⟨hA0, hB0, hS0⟩ := args5_at w ⟨false, xv, xs⟩ ⟨true, yv, ys⟩ ⟨ka, sa⟩ ⟨kb, sb⟩
  have HA := Lib.hid hA0
  have CX := Lib.hid hB0
  clear hA0 hB0 hS0
  go_enter Tryz.func5, Tryz.ntmps5
  go_wp2_with fail
  refine (aty_any op ka sa kb sb _ _ HT0.out).mono ?_
  rintro e wA ⟨rfl, cA⟩
  have HA := Lib.hid (HA.out.later cA)
  have CX := Lib.hid (CX.out.trans (cA.mono CX.out.size))
  obtain ⟨K, hK⟩ : ∃ K, (typed s).kind = K := ⟨_, rfl⟩
  rw [hK, typed_scale]
  clear hK
  clear cA
  have hlt : w.heap.size + 1 + 1 + 1 + 1 < wA.heap.size := (Array.getElem?_eq_some_iff.1 HA.out.2.2.2.2).1
  have HT := Lib.hid (show (wA.alloc (.cells #[.int .i64 K, .int .i64 s] 25)).heap[wA.heap.size]? = some (tyO ⟨K, s⟩) from alloc_at _ _ _ rfl)
  have HA := Lib.hid (HA.out.later ((Below.refl _ _).alloc (Nat.le_refl _) (.cells #[.int .i64 K, .int .i64 s] 25)))
  have CX := Lib.hid (CX.out.alloc CX.out.size (.cells #[.int .i64 K, .int .i64 s] 25))
  obtain ⟨Tb, hTb⟩ : ∃ Tb, wA.heap.size = Tb := ⟨_, rfl⟩
  have HTL := Lib.hid (show w.heap.size + 1 + 1 + 1 + 1 < Tb by omega)
  go_upto_region 2 with fail
  obtain ⟨W1, hW1⟩ : ∃ W1, wA.alloc (.cells #[.int .i64 K, .int .i64 s] 25) = W1 := ⟨_, rfl⟩
  rw [hTb, hW1] at HT
  rw [hW1] at HA CX
  rw [hW1]
  (try rw [hTb])
  clear hTb hW1 hlt
  obtain ⟨x0, x1, x2, fx, y0, y1, y2, fy⟩ := HA.out.cellsX
  obtain ⟨a0, a1, b0, b1⟩ := HA.out.cellsT
  obtain ⟨r0, r1, r2, fr⟩ := HA.out.cellsR
  have t1 := cell_of_row W1 Tb 1 _ _ _ HT.out
  go_wp2_with fail
  refine (fits_any ka sa true false xv xs _ _ H1.out).mono ?_
  rintro e w11 ⟨rfl, c11⟩
  have HA := Lib.hid (HA.out.later c11)
  have CX := Lib.hid (CX.out.trans (c11.mono CX.out.size))
  have HT := Lib.hid (tyO_later HT.out c11)
  clear c11 t1
  clear x0 x1 x2 fx y0 y1 y2 fy a0 a1 b0 b1 r0 r1 r2 fr
  obtain ⟨x0, x1, x2, fx, y0, y1, y2, fy⟩ := HA.out.cellsX
  obtain ⟨a0, a1, b0, b1⟩ := HA.out.cellsT
  obtain ⟨r0, r1, r2, fr⟩ := HA.out.cellsR
  have t1 := cell_of_row w11 Tb 1 _ _ _ HT.out
  go_wp2_with fail
  refine (fits_any kb sb true true yv ys _ _ H2.out).mono ?_
  rintro e w12 ⟨rfl, c12⟩
  have HA := Lib.hid (HA.out.later c12)
  have CX := Lib.hid (CX.out.trans (c12.mono CX.out.size))
  have HT := Lib.hid (tyO_later HT.out c12)
  clear c12 t1
  clear x0 x1 x2 fx y0 y1 y2 fy a0 a1 b0 b1 r0 r1 r2 fr
  obtain ⟨x0, x1, x2, fx, y0, y1, y2, fy⟩ := HA.out.cellsX
  obtain ⟨a0, a1, b0, b1⟩ := HA.out.cellsT
  obtain ⟨r0, r1, r2, fr⟩ := HA.out.cellsR
  have t1 := cell_of_row w12 Tb 1 _ _ _ HT.out
  go_wp2_with fail
  exact bodyPost_ret (v := .tuple #[.agg #[.bool true, .int .i64 0, .string ⟨#[]⟩], .int .i64 0]) (by simp [results, Tryz.results5, go_sem, r0, r1, r2, fr]) rfl (ar_end nullVa 0 CX.out _ _ _)
set_option maxRecDepth 100000 in
set_option maxHeartbeats 4000000 in
theorem ar_p_e (op : UInt8) (xn : Bool) (xv : Int) (xs : ByteArray) (yn : Bool) (yv : Int) (ys : ByteArray) (ka sa kb sb : Int) (w : World)  (s : Int) (h0 : arithTy op ⟨ka, sa⟩ ⟨kb, sb⟩ = some s) (h1 : fitsB ⟨ka, sa⟩ true ⟨xn, xv, xs⟩ = true) (h2 : fitsB ⟨kb, sb⟩ true ⟨yn, yv, ys⟩ = true) (hx : xn = false) (hy : yn = false) (hxv : I64 xv) (hyv : I64 yv) (h43 : (op == 43) = true) (p e1 : Int) (hxs : scaleP xv sa s = (p, e1)) (q e2 : Int) (hys : scaleP yv sb s = (q, e2)) (he : e1 ≠ 0) : Calls Tryz.prog 5 #[.int .u8 (op.toNat : Int), .agg #[.bool xn, .int .i64 xv, .string xs], .agg #[.bool yn, .int .i64 yv, .string ys], .agg #[.int .i64 ka, .int .i64 sa], .agg #[.int .i64 kb, .int .i64 sb]] w (ArS w noVa 11) := by
  have HT0 := Lib.hid h0
  clear h0
  have H1 := Lib.hid h1
  clear h1
  have H2 := Lib.hid h2
  clear h2
  subst hx
  subst hy
  have HXV := Lib.hid hxv
  have HYV := Lib.hid hyv
  clear hxv hyv
  have e43 : ((op.toNat : Int) == 43) = true := by rw [show (43 : Int) = ((43 : Nat) : Int) from rfl, op_num op 43 (by decide)]; exact h43
  clear h43
  have HXS := Lib.hid hxs
  have HYS := Lib.hid hys
  clear hxs hys
  have ee : (e1 != 0) = true := bne_iff_ne.2 he
  clear he
  obtain ⟨hA0, hB0, hS0⟩ := args5_at w ⟨false, xv, xs⟩ ⟨false, yv, ys⟩ ⟨ka, sa⟩ ⟨kb, sb⟩
  have HA := Lib.hid hA0
  have CX := Lib.hid hB0
  clear hA0 hB0 hS0
  go_enter Tryz.func5, Tryz.ntmps5
  go_wp2_with fail
  refine (aty_any op ka sa kb sb _ _ HT0.out).mono ?_
  rintro e wA ⟨rfl, cA⟩
  have HA := Lib.hid (HA.out.later cA)
  have CX := Lib.hid (CX.out.trans (cA.mono CX.out.size))
  obtain ⟨K, hK⟩ : ∃ K, (typed s).kind = K := ⟨_, rfl⟩
  rw [hK, typed_scale]
  clear hK
  clear cA
  have hlt : w.heap.size + 1 + 1 + 1 + 1 < wA.heap.size := (Array.getElem?_eq_some_iff.1 HA.out.2.2.2.2).1
  have HT := Lib.hid (show (wA.alloc (.cells #[.int .i64 K, .int .i64 s] 25)).heap[wA.heap.size]? = some (tyO ⟨K, s⟩) from alloc_at _ _ _ rfl)
  have HA := Lib.hid (HA.out.later ((Below.refl _ _).alloc (Nat.le_refl _) (.cells #[.int .i64 K, .int .i64 s] 25)))
  have CX := Lib.hid (CX.out.alloc CX.out.size (.cells #[.int .i64 K, .int .i64 s] 25))
  obtain ⟨Tb, hTb⟩ : ∃ Tb, wA.heap.size = Tb := ⟨_, rfl⟩
  have HTL := Lib.hid (show w.heap.size + 1 + 1 + 1 + 1 < Tb by omega)
  go_upto_region 2 with fail
  obtain ⟨W1, hW1⟩ : ∃ W1, wA.alloc (.cells #[.int .i64 K, .int .i64 s] 25) = W1 := ⟨_, rfl⟩
  rw [hTb, hW1] at HT
  rw [hW1] at HA CX
  rw [hW1]
  (try rw [hTb])
  clear hTb hW1 hlt
  obtain ⟨x0, x1, x2, fx, y0, y1, y2, fy⟩ := HA.out.cellsX
  obtain ⟨a0, a1, b0, b1⟩ := HA.out.cellsT
  obtain ⟨r0, r1, r2, fr⟩ := HA.out.cellsR
  have t1 := cell_of_row W1 Tb 1 _ _ _ HT.out
  go_wp2_with fail
  refine (fits_any ka sa true false xv xs _ _ H1.out).mono ?_
  rintro e w15 ⟨rfl, c15⟩
  have HA := Lib.hid (HA.out.later c15)
  have CX := Lib.hid (CX.out.trans (c15.mono CX.out.size))
  have HT := Lib.hid (tyO_later HT.out c15)
  clear c15 t1
  clear x0 x1 x2 fx y0 y1 y2 fy a0 a1 b0 b1 r0 r1 r2 fr
  obtain ⟨x0, x1, x2, fx, y0, y1, y2, fy⟩ := HA.out.cellsX
  obtain ⟨a0, a1, b0, b1⟩ := HA.out.cellsT
  obtain ⟨r0, r1, r2, fr⟩ := HA.out.cellsR
  have t1 := cell_of_row w15 Tb 1 _ _ _ HT.out
  go_wp2_with fail
  refine (fits_any kb sb true false yv ys _ _ H2.out).mono ?_
  rintro e w16 ⟨rfl, c16⟩
  have HA := Lib.hid (HA.out.later c16)
  have CX := Lib.hid (CX.out.trans (c16.mono CX.out.size))
  have HT := Lib.hid (tyO_later HT.out c16)
  clear c16 t1
  clear x0 x1 x2 fx y0 y1 y2 fy a0 a1 b0 b1 r0 r1 r2 fr
  obtain ⟨x0, x1, x2, fx, y0, y1, y2, fy⟩ := HA.out.cellsX
  obtain ⟨a0, a1, b0, b1⟩ := HA.out.cellsT
  obtain ⟨r0, r1, r2, fr⟩ := HA.out.cellsR
  have t1 := cell_of_row w16 Tb 1 _ _ _ HT.out
  go_wp2_with fail
  refine (scale_any xv sa s HXV.out _ _ _ HXS.out).mono ?_
  rintro e w17 ⟨rfl, c17⟩
  have HA := Lib.hid ((HA.out.later c17).setX p)
  have CX := Lib.hid (show Below w.heap.size w (w17.setCell ⟨w.heap.size, 1, none⟩ (.int .i64 p)) from (CX.out.trans (c17.mono CX.out.size)).setCell (by simp) _)
  have HT := Lib.hid (tyO_set (b := w.heap.size) (j := 1) (u := .int .i64 p) (tyO_later HT.out c17) (by have := HTL.out; omega))
  have g1 : w17.cell? ⟨w.heap.size, 1, none⟩ = some (.int .i64 xv) := cell_later c17 x1
  have g2 : w17.frozen? ⟨w.heap.size, 1, none⟩ = false := (c17.frozen (p := ⟨w.heap.size, 1, none⟩) (World.block_lt_of_cell? _ _ x1)).trans (fx 1)
  clear c17 t1
  clear x0 x1 x2 fx y0 y1 y2 fy a0 a1 b0 b1 r0 r1 r2 fr
  go_upto_region 11 with fail
  obtain ⟨V17, hV17⟩ : ∃ V, w17.setCell ⟨w.heap.size, 1, none⟩ (.int .i64 p) = V := ⟨_, rfl⟩
  rw [hV17] at HA CX HT ⊢
  clear hV17 g1 g2
  obtain ⟨x0, x1, x2, fx, y0, y1, y2, fy⟩ := HA.out.cellsX
  obtain ⟨a0, a1, b0, b1⟩ := HA.out.cellsT
  obtain ⟨r0, r1, r2, fr⟩ := HA.out.cellsR
  have t1 := cell_of_row V17 Tb 1 _ _ _ HT.out
  go_wp2_with fail
  refine (scale_any yv sb s HYV.out _ _ _ HYS.out).mono ?_
  rintro e w18 ⟨rfl, c18⟩
  have HA := Lib.hid ((HA.out.later c18).setY q)
  have CX := Lib.hid (show Below w.heap.size w (w18.setCell ⟨w.heap.size + 1, 1, none⟩ (.int .i64 q)) from (CX.out.trans (c18.mono CX.out.size)).setCell (by simp) _)
  have HT := Lib.hid (tyO_set (b := w.heap.size + 1) (j := 1) (u := .int .i64 q) (tyO_later HT.out c18) (by have := HTL.out; omega))
  have g1 : w18.cell? ⟨w.heap.size + 1, 1, none⟩ = some (.int .i64 yv) := cell_later c18 y1
  have g2 : w18.frozen? ⟨w.heap.size + 1, 1, none⟩ = false := (c18.frozen (p := ⟨w.heap.size + 1, 1, none⟩) (World.block_lt_of_cell? _ _ y1)).trans (fy 1)
  clear c18 t1
  clear x0 x1 x2 fx y0 y1 y2 fy a0 a1 b0 b1 r0 r1 r2 fr
  go_upto_region 12 with fail
  obtain ⟨V18, hV18⟩ : ∃ V, w18.setCell ⟨w.heap.size + 1, 1, none⟩ (.int .i64 q) = V := ⟨_, rfl⟩
  rw [hV18] at HA CX HT ⊢
  clear hV18 g1 g2
  obtain ⟨x0, x1, x2, fx, y0, y1, y2, fy⟩ := HA.out.cellsX
  obtain ⟨a0, a1, b0, b1⟩ := HA.out.cellsT
  obtain ⟨r0, r1, r2, fr⟩ := HA.out.cellsR
  have t1 := cell_of_row V18 Tb 1 _ _ _ HT.out
  go_wp2_with fail
  exact bodyPost_ret (v := .tuple #[.agg #[.bool false, .int .i64 0, .string ⟨#[]⟩], .int .i64 11]) (by simp [results, Tryz.results5, go_sem, r0, r1, r2, fr]) rfl (ar_end noVa 11 CX.out _ _ _)
set_option maxRecDepth 100000 in
set_option maxHeartbeats 4000000 in
theorem ar_p_f (op : UInt8) (xn : Bool) (xv : Int) (xs : ByteArray) (yn : Bool) (yv : Int) (ys : ByteArray) (ka sa kb sb : Int) (w : World)  (s : Int) (h0 : arithTy op ⟨ka, sa⟩ ⟨kb, sb⟩ = some s) (h1 : fitsB ⟨ka, sa⟩ true ⟨xn, xv, xs⟩ = true) (h2 : fitsB ⟨kb, sb⟩ true ⟨yn, yv, ys⟩ = true) (hx : xn = false) (hy : yn = false) (hxv : I64 xv) (hyv : I64 yv) (h43 : (op == 43) = true) (p : Int) (hxs : scaleP xv sa s = (p, 0)) (q e2 : Int) (hys : scaleP yv sb s = (q, e2)) (he : e2 ≠ 0) : Calls Tryz.prog 5 #[.int .u8 (op.toNat : Int), .agg #[.bool xn, .int .i64 xv, .string xs], .agg #[.bool yn, .int .i64 yv, .string ys], .agg #[.int .i64 ka, .int .i64 sa], .agg #[.int .i64 kb, .int .i64 sb]] w (ArS w noVa 11) := by
  have HT0 := Lib.hid h0
  clear h0
  have H1 := Lib.hid h1
  clear h1
  have H2 := Lib.hid h2
  clear h2
  subst hx
  subst hy
  have HXV := Lib.hid hxv
  have HYV := Lib.hid hyv
  clear hxv hyv
  have e43 : ((op.toNat : Int) == 43) = true := by rw [show (43 : Int) = ((43 : Nat) : Int) from rfl, op_num op 43 (by decide)]; exact h43
  clear h43
  have HXS := Lib.hid hxs
  have HYS := Lib.hid hys
  clear hxs hys
  have ee : (e2 != 0) = true := bne_iff_ne.2 he
  clear he
  obtain ⟨hA0, hB0, hS0⟩ := args5_at w ⟨false, xv, xs⟩ ⟨false, yv, ys⟩ ⟨ka, sa⟩ ⟨kb, sb⟩
  have HA := Lib.hid hA0
  have CX := Lib.hid hB0
  clear hA0 hB0 hS0
  go_enter Tryz.func5, Tryz.ntmps5
  go_wp2_with fail
  refine (aty_any op ka sa kb sb _ _ HT0.out).mono ?_
  rintro e wA ⟨rfl, cA⟩
  have HA := Lib.hid (HA.out.later cA)
  have CX := Lib.hid (CX.out.trans (cA.mono CX.out.size))
  obtain ⟨K, hK⟩ : ∃ K, (typed s).kind = K := ⟨_, rfl⟩
  rw [hK, typed_scale]
  clear hK
  clear cA
  have hlt : w.heap.size + 1 + 1 + 1 + 1 < wA.heap.size := (Array.getElem?_eq_some_iff.1 HA.out.2.2.2.2).1
  have HT := Lib.hid (show (wA.alloc (.cells #[.int .i64 K, .int .i64 s] 25)).heap[wA.heap.size]? = some (tyO ⟨K, s⟩) from alloc_at _ _ _ rfl)
  have HA := Lib.hid (HA.out.later ((Below.refl _ _).alloc (Nat.le_refl _) (.cells #[.int .i64 K, .int .i64 s] 25)))
  have CX := Lib.hid (CX.out.alloc CX.out.size (.cells #[.int .i64 K, .int .i64 s] 25))
  obtain ⟨Tb, hTb⟩ : ∃ Tb, wA.heap.size = Tb := ⟨_, rfl⟩
  have HTL := Lib.hid (show w.heap.size + 1 + 1 + 1 + 1 < Tb by omega)
  go_upto_region 2 with fail
  obtain ⟨W1, hW1⟩ : ∃ W1, wA.alloc (.cells #[.int .i64 K, .int .i64 s] 25) = W1 := ⟨_, rfl⟩
  rw [hTb, hW1] at HT
  rw [hW1] at HA CX
  rw [hW1]
  (try rw [hTb])
  clear hTb hW1 hlt
  obtain ⟨x0, x1, x2, fx, y0, y1, y2, fy⟩ := HA.out.cellsX
  obtain ⟨a0, a1, b0, b1⟩ := HA.out.cellsT
  obtain ⟨r0, r1, r2, fr⟩ := HA.out.cellsR
  have t1 := cell_of_row W1 Tb 1 _ _ _ HT.out
  go_wp2_with fail
  refine (fits_any ka sa true false xv xs _ _ H1.out).mono ?_
  rintro e w19 ⟨rfl, c19⟩
  have HA := Lib.hid (HA.out.later c19)
  have CX := Lib.hid (CX.out.trans (c19.mono CX.out.size))
  have HT := Lib.hid (tyO_later HT.out c19)
  clear c19 t1
  clear x0 x1 x2 fx y0 y1 y2 fy a0 a1 b0 b1 r0 r1 r2 fr
  obtain ⟨x0, x1, x2, fx, y0, y1, y2, fy⟩ := HA.out.cellsX
  obtain ⟨a0, a1, b0, b1⟩ := HA.out.cellsT
  obtain ⟨r0, r1, r2, fr⟩ := HA.out.cellsR
  have t1 := cell_of_row w19 Tb 1 _ _ _ HT.out
  go_wp2_with fail
  refine (fits_any kb sb true false yv ys _ _ H2.out).mono ?_
  rintro e w20 ⟨rfl, c20⟩
  have HA := Lib.hid (HA.out.later c20)
  have CX := Lib.hid (CX.out.trans (c20.mono CX.out.size))
  have HT := Lib.hid (tyO_later HT.out c20)
  clear c20 t1
  clear x0 x1 x2 fx y0 y1 y2 fy a0 a1 b0 b1 r0 r1 r2 fr
  obtain ⟨x0, x1, x2, fx, y0, y1, y2, fy⟩ := HA.out.cellsX
  obtain ⟨a0, a1, b0, b1⟩ := HA.out.cellsT
  obtain ⟨r0, r1, r2, fr⟩ := HA.out.cellsR
  have t1 := cell_of_row w20 Tb 1 _ _ _ HT.out
  go_wp2_with fail
  refine (scale_any xv sa s HXV.out _ _ _ HXS.out).mono ?_
  rintro e w21 ⟨rfl, c21⟩
  have HA := Lib.hid ((HA.out.later c21).setX p)
  have CX := Lib.hid (show Below w.heap.size w (w21.setCell ⟨w.heap.size, 1, none⟩ (.int .i64 p)) from (CX.out.trans (c21.mono CX.out.size)).setCell (by simp) _)
  have HT := Lib.hid (tyO_set (b := w.heap.size) (j := 1) (u := .int .i64 p) (tyO_later HT.out c21) (by have := HTL.out; omega))
  have g1 : w21.cell? ⟨w.heap.size, 1, none⟩ = some (.int .i64 xv) := cell_later c21 x1
  have g2 : w21.frozen? ⟨w.heap.size, 1, none⟩ = false := (c21.frozen (p := ⟨w.heap.size, 1, none⟩) (World.block_lt_of_cell? _ _ x1)).trans (fx 1)
  clear c21 t1
  clear x0 x1 x2 fx y0 y1 y2 fy a0 a1 b0 b1 r0 r1 r2 fr
  go_upto_region 11 with fail
  obtain ⟨V21, hV21⟩ : ∃ V, w21.setCell ⟨w.heap.size, 1, none⟩ (.int .i64 p) = V := ⟨_, rfl⟩
  rw [hV21] at HA CX HT ⊢
  clear hV21 g1 g2
  obtain ⟨x0, x1, x2, fx, y0, y1, y2, fy⟩ := HA.out.cellsX
  obtain ⟨a0, a1, b0, b1⟩ := HA.out.cellsT
  obtain ⟨r0, r1, r2, fr⟩ := HA.out.cellsR
  have t1 := cell_of_row V21 Tb 1 _ _ _ HT.out
  go_wp2_with fail
  refine (scale_any yv sb s HYV.out _ _ _ HYS.out).mono ?_
  rintro e w22 ⟨rfl, c22⟩
  have HA := Lib.hid ((HA.out.later c22).setY q)
  have CX := Lib.hid (show Below w.heap.size w (w22.setCell ⟨w.heap.size + 1, 1, none⟩ (.int .i64 q)) from (CX.out.trans (c22.mono CX.out.size)).setCell (by simp) _)
  have HT := Lib.hid (tyO_set (b := w.heap.size + 1) (j := 1) (u := .int .i64 q) (tyO_later HT.out c22) (by have := HTL.out; omega))
  have g1 : w22.cell? ⟨w.heap.size + 1, 1, none⟩ = some (.int .i64 yv) := cell_later c22 y1
  have g2 : w22.frozen? ⟨w.heap.size + 1, 1, none⟩ = false := (c22.frozen (p := ⟨w.heap.size + 1, 1, none⟩) (World.block_lt_of_cell? _ _ y1)).trans (fy 1)
  clear c22 t1
  clear x0 x1 x2 fx y0 y1 y2 fy a0 a1 b0 b1 r0 r1 r2 fr
  go_upto_region 12 with fail
  obtain ⟨V22, hV22⟩ : ∃ V, w22.setCell ⟨w.heap.size + 1, 1, none⟩ (.int .i64 q) = V := ⟨_, rfl⟩
  rw [hV22] at HA CX HT ⊢
  clear hV22 g1 g2
  obtain ⟨x0, x1, x2, fx, y0, y1, y2, fy⟩ := HA.out.cellsX
  obtain ⟨a0, a1, b0, b1⟩ := HA.out.cellsT
  obtain ⟨r0, r1, r2, fr⟩ := HA.out.cellsR
  have t1 := cell_of_row V22 Tb 1 _ _ _ HT.out
  go_wp2_with fail
  exact bodyPost_ret (v := .tuple #[.agg #[.bool false, .int .i64 0, .string ⟨#[]⟩], .int .i64 11]) (by simp [results, Tryz.results5, go_sem, r0, r1, r2, fr]) rfl (ar_end noVa 11 CX.out _ _ _)
set_option maxRecDepth 100000 in
set_option maxHeartbeats 4000000 in
theorem ar_p_n (op : UInt8) (xn : Bool) (xv : Int) (xs : ByteArray) (yn : Bool) (yv : Int) (ys : ByteArray) (ka sa kb sb : Int) (w : World)  (s : Int) (h0 : arithTy op ⟨ka, sa⟩ ⟨kb, sb⟩ = some s) (h1 : fitsB ⟨ka, sa⟩ true ⟨xn, xv, xs⟩ = true) (h2 : fitsB ⟨kb, sb⟩ true ⟨yn, yv, ys⟩ = true) (hx : xn = false) (hy : yn = false) (hxv : I64 xv) (hyv : I64 yv) (h43 : (op == 43) = true) (p : Int) (hxs : scaleP xv sa s = (p, 0)) (q : Int) (hys : scaleP yv sb s = (q, 0)) (hp : I64 p) (hq : I64 q) (hr : reckonP op p q = none) : Calls Tryz.prog 5 #[.int .u8 (op.toNat : Int), .agg #[.bool xn, .int .i64 xv, .string xs], .agg #[.bool yn, .int .i64 yv, .string ys], .agg #[.int .i64 ka, .int .i64 sa], .agg #[.int .i64 kb, .int .i64 sb]] w (ArS w noVa 11) := by
  have HT0 := Lib.hid h0
  clear h0
  have H1 := Lib.hid h1
  clear h1
  have H2 := Lib.hid h2
  clear h2
  subst hx
  subst hy
  have HXV := Lib.hid hxv
  have HYV := Lib.hid hyv
  clear hxv hyv
  have e43 : ((op.toNat : Int) == 43) = true := by rw [show (43 : Int) = ((43 : Nat) : Int) from rfl, op_num op 43 (by decide)]; exact h43
  clear h43
  have HXS := Lib.hid hxs
  have HYS := Lib.hid hys
  clear hxs hys
  have HP := Lib.hid hp
  have HQ := Lib.hid hq
  have HR := Lib.hid hr
  clear hp hq hr
  obtain ⟨hA0, hB0, hS0⟩ := args5_at w ⟨false, xv, xs⟩ ⟨false, yv, ys⟩ ⟨ka, sa⟩ ⟨kb, sb⟩
  have HA := Lib.hid hA0
  have CX := Lib.hid hB0
  clear hA0 hB0 hS0
  go_enter Tryz.func5, Tryz.ntmps5
  go_wp2_with fail
  refine (aty_any op ka sa kb sb _ _ HT0.out).mono ?_
  rintro e wA ⟨rfl, cA⟩
  have HA := Lib.hid (HA.out.later cA)
  have CX := Lib.hid (CX.out.trans (cA.mono CX.out.size))
  obtain ⟨K, hK⟩ : ∃ K, (typed s).kind = K := ⟨_, rfl⟩
  rw [hK, typed_scale]
  clear hK
  clear cA
  have hlt : w.heap.size + 1 + 1 + 1 + 1 < wA.heap.size := (Array.getElem?_eq_some_iff.1 HA.out.2.2.2.2).1
  have HT := Lib.hid (show (wA.alloc (.cells #[.int .i64 K, .int .i64 s] 25)).heap[wA.heap.size]? = some (tyO ⟨K, s⟩) from alloc_at _ _ _ rfl)
  have HA := Lib.hid (HA.out.later ((Below.refl _ _).alloc (Nat.le_refl _) (.cells #[.int .i64 K, .int .i64 s] 25)))
  have CX := Lib.hid (CX.out.alloc CX.out.size (.cells #[.int .i64 K, .int .i64 s] 25))
  obtain ⟨Tb, hTb⟩ : ∃ Tb, wA.heap.size = Tb := ⟨_, rfl⟩
  have HTL := Lib.hid (show w.heap.size + 1 + 1 + 1 + 1 < Tb by omega)
  go_upto_region 2 with fail
  obtain ⟨W1, hW1⟩ : ∃ W1, wA.alloc (.cells #[.int .i64 K, .int .i64 s] 25) = W1 := ⟨_, rfl⟩
  rw [hTb, hW1] at HT
  rw [hW1] at HA CX
  rw [hW1]
  (try rw [hTb])
  clear hTb hW1 hlt
  obtain ⟨x0, x1, x2, fx, y0, y1, y2, fy⟩ := HA.out.cellsX
  obtain ⟨a0, a1, b0, b1⟩ := HA.out.cellsT
  obtain ⟨r0, r1, r2, fr⟩ := HA.out.cellsR
  have t1 := cell_of_row W1 Tb 1 _ _ _ HT.out
  go_wp2_with fail
  refine (fits_any ka sa true false xv xs _ _ H1.out).mono ?_
  rintro e w23 ⟨rfl, c23⟩
  have HA := Lib.hid (HA.out.later c23)
  have CX := Lib.hid (CX.out.trans (c23.mono CX.out.size))
  have HT := Lib.hid (tyO_later HT.out c23)
  clear c23 t1
  clear x0 x1 x2 fx y0 y1 y2 fy a0 a1 b0 b1 r0 r1 r2 fr
  obtain ⟨x0, x1, x2, fx, y0, y1, y2, fy⟩ := HA.out.cellsX
  obtain ⟨a0, a1, b0, b1⟩ := HA.out.cellsT
  obtain ⟨r0, r1, r2, fr⟩ := HA.out.cellsR
  have t1 := cell_of_row w23 Tb 1 _ _ _ HT.out
  go_wp2_with fail
  refine (fits_any kb sb true false yv ys _ _ H2.out).mono ?_
  rintro e w24 ⟨rfl, c24⟩
  have HA := Lib.hid (HA.out.later c24)
  have CX := Lib.hid (CX.out.trans (c24.mono CX.out.size))
  have HT := Lib.hid (tyO_later HT.out c24)
  clear c24 t1
  clear x0 x1 x2 fx y0 y1 y2 fy a0 a1 b0 b1 r0 r1 r2 fr
  obtain ⟨x0, x1, x2, fx, y0, y1, y2, fy⟩ := HA.out.cellsX
  obtain ⟨a0, a1, b0, b1⟩ := HA.out.cellsT
  obtain ⟨r0, r1, r2, fr⟩ := HA.out.cellsR
  have t1 := cell_of_row w24 Tb 1 _ _ _ HT.out
  go_wp2_with fail
  refine (scale_any xv sa s HXV.out _ _ _ HXS.out).mono ?_
  rintro e w25 ⟨rfl, c25⟩
  have HA := Lib.hid ((HA.out.later c25).setX p)
  have CX := Lib.hid (show Below w.heap.size w (w25.setCell ⟨w.heap.size, 1, none⟩ (.int .i64 p)) from (CX.out.trans (c25.mono CX.out.size)).setCell (by simp) _)
  have HT := Lib.hid (tyO_set (b := w.heap.size) (j := 1) (u := .int .i64 p) (tyO_later HT.out c25) (by have := HTL.out; omega))
  have g1 : w25.cell? ⟨w.heap.size, 1, none⟩ = some (.int .i64 xv) := cell_later c25 x1
  have g2 : w25.frozen? ⟨w.heap.size, 1, none⟩ = false := (c25.frozen (p := ⟨w.heap.size, 1, none⟩) (World.block_lt_of_cell? _ _ x1)).trans (fx 1)
  clear c25 t1
  clear x0 x1 x2 fx y0 y1 y2 fy a0 a1 b0 b1 r0 r1 r2 fr
  go_upto_region 11 with fail
  obtain ⟨V25, hV25⟩ : ∃ V, w25.setCell ⟨w.heap.size, 1, none⟩ (.int .i64 p) = V := ⟨_, rfl⟩
  rw [hV25] at HA CX HT ⊢
  clear hV25 g1 g2
  obtain ⟨x0, x1, x2, fx, y0, y1, y2, fy⟩ := HA.out.cellsX
  obtain ⟨a0, a1, b0, b1⟩ := HA.out.cellsT
  obtain ⟨r0, r1, r2, fr⟩ := HA.out.cellsR
  have t1 := cell_of_row V25 Tb 1 _ _ _ HT.out
  go_wp2_with fail
  refine (scale_any yv sb s HYV.out _ _ _ HYS.out).mono ?_
  rintro e w26 ⟨rfl, c26⟩
  have HA := Lib.hid ((HA.out.later c26).setY q)
  have CX := Lib.hid (show Below w.heap.size w (w26.setCell ⟨w.heap.size + 1, 1, none⟩ (.int .i64 q)) from (CX.out.trans (c26.mono CX.out.size)).setCell (by simp) _)
  have HT := Lib.hid (tyO_set (b := w.heap.size + 1) (j := 1) (u := .int .i64 q) (tyO_later HT.out c26) (by have := HTL.out; omega))
  have g1 : w26.cell? ⟨w.heap.size + 1, 1, none⟩ = some (.int .i64 yv) := cell_later c26 y1
  have g2 : w26.frozen? ⟨w.heap.size + 1, 1, none⟩ = false := (c26.frozen (p := ⟨w.heap.size + 1, 1, none⟩) (World.block_lt_of_cell? _ _ y1)).trans (fy 1)
  clear c26 t1
  clear x0 x1 x2 fx y0 y1 y2 fy a0 a1 b0 b1 r0 r1 r2 fr
  go_upto_region 12 with fail
  obtain ⟨V26, hV26⟩ : ∃ V, w26.setCell ⟨w.heap.size + 1, 1, none⟩ (.int .i64 q) = V := ⟨_, rfl⟩
  rw [hV26] at HA CX HT ⊢
  clear hV26 g1 g2
  obtain ⟨x0, x1, x2, fx, y0, y1, y2, fy⟩ := HA.out.cellsX
  obtain ⟨a0, a1, b0, b1⟩ := HA.out.cellsT
  obtain ⟨r0, r1, r2, fr⟩ := HA.out.cellsR
  have t1 := cell_of_row V26 Tb 1 _ _ _ HT.out
  go_wp2_with fail
  refine (reckon_any op p q HP.out HQ.out _ _ HR.out).mono ?_
  rintro e w27 ⟨u, ok, rfl, hok, hu, c27⟩
  have HA := Lib.hid (HA.out.later c27)
  have CX := Lib.hid (CX.out.trans (c27.mono CX.out.size))
  clear c27 t1
  clear x0 x1 x2 fx y0 y1 y2 fy a0 a1 b0 b1 r0 r1 r2 fr
  obtain ⟨x0, x1, x2, fx, y0, y1, y2, fy⟩ := HA.out.cellsX
  obtain ⟨a0, a1, b0, b1⟩ := HA.out.cellsT
  obtain ⟨r0, r1, r2, fr⟩ := HA.out.cellsR
  obtain rfl : ok = false := hok
  clear hu
  go_wp2_with fail
  exact bodyPost_ret (v := .tuple #[.agg #[.bool false, .int .i64 0, .string ⟨#[]⟩], .int .i64 11]) (by simp [results, Tryz.results5, go_sem, r0, r1, r2, fr]) rfl (ar_end noVa 11 CX.out _ _ _)
set_option maxRecDepth 100000 in
set_option maxHeartbeats 4000000 in
theorem ar_p_y (op : UInt8) (xn : Bool) (xv : Int) (xs : ByteArray) (yn : Bool) (yv : Int) (ys : ByteArray) (ka sa kb sb : Int) (w : World)  (s : Int) (h0 : arithTy op ⟨ka, sa⟩ ⟨kb, sb⟩ = some s) (h1 : fitsB ⟨ka, sa⟩ true ⟨xn, xv, xs⟩ = true) (h2 : fitsB ⟨kb, sb⟩ true ⟨yn, yv, ys⟩ = true) (hx : xn = false) (hy : yn = false) (hxv : I64 xv) (hyv : I64 yv) (h43 : (op == 43) = true) (p : Int) (hxs : scaleP xv sa s = (p, 0)) (q : Int) (hys : scaleP yv sb s = (q, 0)) (hp : I64 p) (hq : I64 q) (z : Int) (hr : reckonP op p q = some z) : Calls Tryz.prog 5 #[.int .u8 (op.toNat : Int), .agg #[.bool xn, .int .i64 xv, .string xs], .agg #[.bool yn, .int .i64 yv, .string ys], .agg #[.int .i64 ka, .int .i64 sa], .agg #[.int .i64 kb, .int .i64 sb]] w (ArS w (numVa z) 0) := by
  have HT0 := Lib.hid h0
  clear h0
  have H1 := Lib.hid h1
  clear h1
  have H2 := Lib.hid h2
  clear h2
  subst hx
  subst hy
  have HXV := Lib.hid hxv
  have HYV := Lib.hid hyv
  clear hxv hyv
  have e43 : ((op.toNat : Int) == 43) = true := by rw [show (43 : Int) = ((43 : Nat) : Int) from rfl, op_num op 43 (by decide)]; exact h43
  clear h43
  have HXS := Lib.hid hxs
  have HYS := Lib.hid hys
  clear hxs hys
  have HP := Lib.hid hp
  have HQ := Lib.hid hq
  have HR := Lib.hid hr
  clear hp hq hr
  obtain ⟨hA0, hB0, hS0⟩ := args5_at w ⟨false, xv, xs⟩ ⟨false, yv, ys⟩ ⟨ka, sa⟩ ⟨kb, sb⟩
  have HA := Lib.hid hA0
  have CX := Lib.hid hB0
  clear hA0 hB0 hS0
  go_enter Tryz.func5, Tryz.ntmps5
  go_wp2_with fail
  refine (aty_any op ka sa kb sb _ _ HT0.out).mono ?_
  rintro e wA ⟨rfl, cA⟩
  have HA := Lib.hid (HA.out.later cA)
  have CX := Lib.hid (CX.out.trans (cA.mono CX.out.size))
  obtain ⟨K, hK⟩ : ∃ K, (typed s).kind = K := ⟨_, rfl⟩
  rw [hK, typed_scale]
  clear hK
  clear cA
  have hlt : w.heap.size + 1 + 1 + 1 + 1 < wA.heap.size := (Array.getElem?_eq_some_iff.1 HA.out.2.2.2.2).1
  have HT := Lib.hid (show (wA.alloc (.cells #[.int .i64 K, .int .i64 s] 25)).heap[wA.heap.size]? = some (tyO ⟨K, s⟩) from alloc_at _ _ _ rfl)
  have HA := Lib.hid (HA.out.later ((Below.refl _ _).alloc (Nat.le_refl _) (.cells #[.int .i64 K, .int .i64 s] 25)))
  have CX := Lib.hid (CX.out.alloc CX.out.size (.cells #[.int .i64 K, .int .i64 s] 25))
  obtain ⟨Tb, hTb⟩ : ∃ Tb, wA.heap.size = Tb := ⟨_, rfl⟩
  have HTL := Lib.hid (show w.heap.size + 1 + 1 + 1 + 1 < Tb by omega)
  go_upto_region 2 with fail
  obtain ⟨W1, hW1⟩ : ∃ W1, wA.alloc (.cells #[.int .i64 K, .int .i64 s] 25) = W1 := ⟨_, rfl⟩
  rw [hTb, hW1] at HT
  rw [hW1] at HA CX
  rw [hW1]
  (try rw [hTb])
  clear hTb hW1 hlt
  obtain ⟨x0, x1, x2, fx, y0, y1, y2, fy⟩ := HA.out.cellsX
  obtain ⟨a0, a1, b0, b1⟩ := HA.out.cellsT
  obtain ⟨r0, r1, r2, fr⟩ := HA.out.cellsR
  have t1 := cell_of_row W1 Tb 1 _ _ _ HT.out
  go_wp2_with fail
  refine (fits_any ka sa true false xv xs _ _ H1.out).mono ?_
  rintro e w28 ⟨rfl, c28⟩
  have HA := Lib.hid (HA.out.later c28)
  have CX := Lib.hid (CX.out.trans (c28.mono CX.out.size))
  have HT := Lib.hid (tyO_later HT.out c28)
  clear c28 t1
  clear x0 x1 x2 fx y0 y1 y2 fy a0 a1 b0 b1 r0 r1 r2 fr
  obtain ⟨x0, x1, x2, fx, y0, y1, y2, fy⟩ := HA.out.cellsX
  obtain ⟨a0, a1, b0, b1⟩ := HA.out.cellsT
  obtain ⟨r0, r1, r2, fr⟩ := HA.out.cellsR
  have t1 := cell_of_row w28 Tb 1 _ _ _ HT.out
  go_wp2_with fail
  refine (fits_any kb sb true false yv ys _ _ H2.out).mono ?_
  rintro e w29 ⟨rfl, c29⟩
  have HA := Lib.hid (HA.out.later c29)
  have CX := Lib.hid (CX.out.trans (c29.mono CX.out.size))
  have HT := Lib.hid (tyO_later HT.out c29)
  clear c29 t1
  clear x0 x1 x2 fx y0 y1 y2 fy a0 a1 b0 b1 r0 r1 r2 fr
  obtain ⟨x0, x1, x2, fx, y0, y1, y2, fy⟩ := HA.out.cellsX
  obtain ⟨a0, a1, b0, b1⟩ := HA.out.cellsT
  obtain ⟨r0, r1, r2, fr⟩ := HA.out.cellsR
  have t1 := cell_of_row w29 Tb 1 _ _ _ HT.out
  go_wp2_with fail
  refine (scale_any xv sa s HXV.out _ _ _ HXS.out).mono ?_
  rintro e w30 ⟨rfl, c30⟩
  have HA := Lib.hid ((HA.out.later c30).setX p)
  have CX := Lib.hid (show Below w.heap.size w (w30.setCell ⟨w.heap.size, 1, none⟩ (.int .i64 p)) from (CX.out.trans (c30.mono CX.out.size)).setCell (by simp) _)
  have HT := Lib.hid (tyO_set (b := w.heap.size) (j := 1) (u := .int .i64 p) (tyO_later HT.out c30) (by have := HTL.out; omega))
  have g1 : w30.cell? ⟨w.heap.size, 1, none⟩ = some (.int .i64 xv) := cell_later c30 x1
  have g2 : w30.frozen? ⟨w.heap.size, 1, none⟩ = false := (c30.frozen (p := ⟨w.heap.size, 1, none⟩) (World.block_lt_of_cell? _ _ x1)).trans (fx 1)
  clear c30 t1
  clear x0 x1 x2 fx y0 y1 y2 fy a0 a1 b0 b1 r0 r1 r2 fr
  go_upto_region 11 with fail
  obtain ⟨V30, hV30⟩ : ∃ V, w30.setCell ⟨w.heap.size, 1, none⟩ (.int .i64 p) = V := ⟨_, rfl⟩
  rw [hV30] at HA CX HT ⊢
  clear hV30 g1 g2
  obtain ⟨x0, x1, x2, fx, y0, y1, y2, fy⟩ := HA.out.cellsX
  obtain ⟨a0, a1, b0, b1⟩ := HA.out.cellsT
  obtain ⟨r0, r1, r2, fr⟩ := HA.out.cellsR
  have t1 := cell_of_row V30 Tb 1 _ _ _ HT.out
  go_wp2_with fail
  refine (scale_any yv sb s HYV.out _ _ _ HYS.out).mono ?_
  rintro e w31 ⟨rfl, c31⟩
  have HA := Lib.hid ((HA.out.later c31).setY q)
  have CX := Lib.hid (show Below w.heap.size w (w31.setCell ⟨w.heap.size + 1, 1, none⟩ (.int .i64 q)) from (CX.out.trans (c31.mono CX.out.size)).setCell (by simp) _)
  have HT := Lib.hid (tyO_set (b := w.heap.size + 1) (j := 1) (u := .int .i64 q) (tyO_later HT.out c31) (by have := HTL.out; omega))
  have g1 : w31.cell? ⟨w.heap.size + 1, 1, none⟩ = some (.int .i64 yv) := cell_later c31 y1
  have g2 : w31.frozen? ⟨w.heap.size + 1, 1, none⟩ = false := (c31.frozen (p := ⟨w.heap.size + 1, 1, none⟩) (World.block_lt_of_cell? _ _ y1)).trans (fy 1)
  clear c31 t1
  clear x0 x1 x2 fx y0 y1 y2 fy a0 a1 b0 b1 r0 r1 r2 fr
  go_upto_region 12 with fail
  obtain ⟨V31, hV31⟩ : ∃ V, w31.setCell ⟨w.heap.size + 1, 1, none⟩ (.int .i64 q) = V := ⟨_, rfl⟩
  rw [hV31] at HA CX HT ⊢
  clear hV31 g1 g2
  obtain ⟨x0, x1, x2, fx, y0, y1, y2, fy⟩ := HA.out.cellsX
  obtain ⟨a0, a1, b0, b1⟩ := HA.out.cellsT
  obtain ⟨r0, r1, r2, fr⟩ := HA.out.cellsR
  have t1 := cell_of_row V31 Tb 1 _ _ _ HT.out
  go_wp2_with fail
  refine (reckon_any op p q HP.out HQ.out _ _ HR.out).mono ?_
  rintro e w32 ⟨u, ok, rfl, hok, hu, c32⟩
  have HA := Lib.hid (HA.out.later c32)
  have CX := Lib.hid (CX.out.trans (c32.mono CX.out.size))
  clear c32 t1
  clear x0 x1 x2 fx y0 y1 y2 fy a0 a1 b0 b1 r0 r1 r2 fr
  obtain ⟨x0, x1, x2, fx, y0, y1, y2, fy⟩ := HA.out.cellsX
  obtain ⟨a0, a1, b0, b1⟩ := HA.out.cellsT
  obtain ⟨r0, r1, r2, fr⟩ := HA.out.cellsR
  obtain rfl : ok = true := hok
  obtain rfl : u = z := hu z rfl
  clear hu
  go_wp2_with fail
  exact bodyPost_ret (v := .tuple #[.agg #[.bool false, .int .i64 u, .string ⟨#[]⟩], .int .i64 0]) (by simp [results, Tryz.results5, go_sem, r0, r1, r2, fr]) rfl (ar_end (numVa u) 0 CX.out _ _ _)
set_option maxRecDepth 100000 in
set_option maxHeartbeats 4000000 in
theorem ar_m_e (op : UInt8) (xn : Bool) (xv : Int) (xs : ByteArray) (yn : Bool) (yv : Int) (ys : ByteArray) (ka sa kb sb : Int) (w : World)  (s : Int) (h0 : arithTy op ⟨ka, sa⟩ ⟨kb, sb⟩ = some s) (h1 : fitsB ⟨ka, sa⟩ true ⟨xn, xv, xs⟩ = true) (h2 : fitsB ⟨kb, sb⟩ true ⟨yn, yv, ys⟩ = true) (hx : xn = false) (hy : yn = false) (hxv : I64 xv) (hyv : I64 yv) (h43 : (op == 43) = false) (h45 : (op == 45) = true) (p e1 : Int) (hxs : scaleP xv sa s = (p, e1)) (q e2 : Int) (hys : scaleP yv sb s = (q, e2)) (he : e1 ≠ 0) : Calls Tryz.prog 5 #[.int .u8 (op.toNat : Int), .agg #[.bool xn, .int .i64 xv, .string xs], .agg #[.bool yn, .int .i64 yv, .string ys], .agg #[.int .i64 ka, .int .i64 sa], .agg #[.int .i64 kb, .int .i64 sb]] w (ArS w noVa 11) := by
  have HT0 := Lib.hid h0
  clear h0
  have H1 := Lib.hid h1
  clear h1
  have H2 := Lib.hid h2
  clear h2
  subst hx
  subst hy
  have HXV := Lib.hid hxv
  have HYV := Lib.hid hyv
  clear hxv hyv
  have e43 : ((op.toNat : Int) == 43) = false := by rw [show (43 : Int) = ((43 : Nat) : Int) from rfl, op_num op 43 (by decide)]; exact h43
  have e45 : ((op.toNat : Int) == 45) = true := by rw [show (45 : Int) = ((45 : Nat) : Int) from rfl, op_num op 45 (by decide)]; exact h45
  clear h43 h45
  have HXS := Lib.hid hxs
  have HYS := Lib.hid hys
  clear hxs hys
  have ee : (e1 != 0) = true := bne_iff_ne.2 he
  clear he
  obtain ⟨hA0, hB0, hS0⟩ := args5_at w ⟨false, xv, xs⟩ ⟨false, yv, ys⟩ ⟨ka, sa⟩ ⟨kb, sb⟩
  have HA := Lib.hid hA0
  have CX := Lib.hid hB0
  clear hA0 hB0 hS0
  go_enter Tryz.func5, Tryz.ntmps5
  go_wp2_with fail
  refine (aty_any op ka sa kb sb _ _ HT0.out).mono ?_
  rintro e wA ⟨rfl, cA⟩
  have HA := Lib.hid (HA.out.later cA)
  have CX := Lib.hid (CX.out.trans (cA.mono CX.out.size))
  obtain ⟨K, hK⟩ : ∃ K, (typed s).kind = K := ⟨_, rfl⟩
  rw [hK, typed_scale]
  clear hK
  clear cA
  have hlt : w.heap.size + 1 + 1 + 1 + 1 < wA.heap.size := (Array.getElem?_eq_some_iff.1 HA.out.2.2.2.2).1
  have HT := Lib.hid (show (wA.alloc (.cells #[.int .i64 K, .int .i64 s] 25)).heap[wA.heap.size]? = some (tyO ⟨K, s⟩) from alloc_at _ _ _ rfl)
  have HA := Lib.hid (HA.out.later ((Below.refl _ _).alloc (Nat.le_refl _) (.cells #[.int .i64 K, .int .i64 s] 25)))
  have CX := Lib.hid (CX.out.alloc CX.out.size (.cells #[.int .i64 K, .int .i64 s] 25))
  obtain ⟨Tb, hTb⟩ : ∃ Tb, wA.heap.size = Tb := ⟨_, rfl⟩
  have HTL := Lib.hid (show w.heap.size + 1 + 1 + 1 + 1 < Tb by omega)
  go_upto_region 2 with fail
  obtain ⟨W1, hW1⟩ : ∃ W1, wA.alloc (.cells #[.int .i64 K, .int .i64 s] 25) = W1 := ⟨_, rfl⟩
  rw [hTb, hW1] at HT
  rw [hW1] at HA CX
  rw [hW1]
  (try rw [hTb])
  clear hTb hW1 hlt
  obtain ⟨x0, x1, x2, fx, y0, y1, y2, fy⟩ := HA.out.cellsX
  obtain ⟨a0, a1, b0, b1⟩ := HA.out.cellsT
  obtain ⟨r0, r1, r2, fr⟩ := HA.out.cellsR
  have t1 := cell_of_row W1 Tb 1 _ _ _ HT.out
  go_wp2_with fail
  refine (fits_any ka sa true false xv xs _ _ H1.out).mono ?_
  rintro e w35 ⟨rfl, c35⟩
  have HA := Lib.hid (HA.out.later c35)
  have CX := Lib.hid (CX.out.trans (c35.mono CX.out.size))
  have HT := Lib.hid (tyO_later HT.out c35)
  clear c35 t1
  clear x0 x1 x2 fx y0 y1 y2 fy a0 a1 b0 b1 r0 r1 r2 fr
  obtain ⟨x0, x1, x2, fx, y0, y1, y2, fy⟩ := HA.out.cellsX
  obtain ⟨a0, a1, b0, b1⟩ := HA.out.cellsT
  obtain ⟨r0, r1, r2, fr⟩ := HA.out.cellsR
  have t1 := cell_of_row w35 Tb 1 _ _ _ HT.out
  go_wp2_with fail
  refine (fits_any kb sb true false yv ys _ _ H2.out).mono ?_
  rintro e w36 ⟨rfl, c36⟩
  have HA := Lib.hid (HA.out.later c36)
  have CX := Lib.hid (CX.out.trans (c36.mono CX.out.size))
  have HT := Lib.hid (tyO_later HT.out c36)
  clear c36 t1
  clear x0 x1 x2 fx y0 y1 y2 fy a0 a1 b0 b1 r0 r1 r2 fr
  obtain ⟨x0, x1, x2, fx, y0, y1, y2, fy⟩ := HA.out.cellsX
  obtain ⟨a0, a1, b0, b1⟩ := HA.out.cellsT
  obtain ⟨r0, r1, r2, fr⟩ := HA.out.cellsR
  have t1 := cell_of_row w36 Tb 1 _ _ _ HT.out
  go_wp2_with fail
  refine (scale_any xv sa s HXV.out _ _ _ HXS.out).mono ?_
  rintro e w37 ⟨rfl, c37⟩
  have HA := Lib.hid ((HA.out.later c37).setX p)
  have CX := Lib.hid (show Below w.heap.size w (w37.setCell ⟨w.heap.size, 1, none⟩ (.int .i64 p)) from (CX.out.trans (c37.mono CX.out.size)).setCell (by simp) _)
  have HT := Lib.hid (tyO_set (b := w.heap.size) (j := 1) (u := .int .i64 p) (tyO_later HT.out c37) (by have := HTL.out; omega))
  have g1 : w37.cell? ⟨w.heap.size, 1, none⟩ = some (.int .i64 xv) := cell_later c37 x1
  have g2 : w37.frozen? ⟨w.heap.size, 1, none⟩ = false := (c37.frozen (p := ⟨w.heap.size, 1, none⟩) (World.block_lt_of_cell? _ _ x1)).trans (fx 1)
  clear c37 t1
  clear x0 x1 x2 fx y0 y1 y2 fy a0 a1 b0 b1 r0 r1 r2 fr
  go_upto_region 11 with fail
  obtain ⟨V37, hV37⟩ : ∃ V, w37.setCell ⟨w.heap.size, 1, none⟩ (.int .i64 p) = V := ⟨_, rfl⟩
  rw [hV37] at HA CX HT ⊢
  clear hV37 g1 g2
  obtain ⟨x0, x1, x2, fx, y0, y1, y2, fy⟩ := HA.out.cellsX
  obtain ⟨a0, a1, b0, b1⟩ := HA.out.cellsT
  obtain ⟨r0, r1, r2, fr⟩ := HA.out.cellsR
  have t1 := cell_of_row V37 Tb 1 _ _ _ HT.out
  go_wp2_with fail
  refine (scale_any yv sb s HYV.out _ _ _ HYS.out).mono ?_
  rintro e w38 ⟨rfl, c38⟩
  have HA := Lib.hid ((HA.out.later c38).setY q)
  have CX := Lib.hid (show Below w.heap.size w (w38.setCell ⟨w.heap.size + 1, 1, none⟩ (.int .i64 q)) from (CX.out.trans (c38.mono CX.out.size)).setCell (by simp) _)
  have HT := Lib.hid (tyO_set (b := w.heap.size + 1) (j := 1) (u := .int .i64 q) (tyO_later HT.out c38) (by have := HTL.out; omega))
  have g1 : w38.cell? ⟨w.heap.size + 1, 1, none⟩ = some (.int .i64 yv) := cell_later c38 y1
  have g2 : w38.frozen? ⟨w.heap.size + 1, 1, none⟩ = false := (c38.frozen (p := ⟨w.heap.size + 1, 1, none⟩) (World.block_lt_of_cell? _ _ y1)).trans (fy 1)
  clear c38 t1
  clear x0 x1 x2 fx y0 y1 y2 fy a0 a1 b0 b1 r0 r1 r2 fr
  go_upto_region 12 with fail
  obtain ⟨V38, hV38⟩ : ∃ V, w38.setCell ⟨w.heap.size + 1, 1, none⟩ (.int .i64 q) = V := ⟨_, rfl⟩
  rw [hV38] at HA CX HT ⊢
  clear hV38 g1 g2
  obtain ⟨x0, x1, x2, fx, y0, y1, y2, fy⟩ := HA.out.cellsX
  obtain ⟨a0, a1, b0, b1⟩ := HA.out.cellsT
  obtain ⟨r0, r1, r2, fr⟩ := HA.out.cellsR
  have t1 := cell_of_row V38 Tb 1 _ _ _ HT.out
  go_wp2_with fail
  exact bodyPost_ret (v := .tuple #[.agg #[.bool false, .int .i64 0, .string ⟨#[]⟩], .int .i64 11]) (by simp [results, Tryz.results5, go_sem, r0, r1, r2, fr]) rfl (ar_end noVa 11 CX.out _ _ _)
set_option maxRecDepth 100000 in
set_option maxHeartbeats 4000000 in
theorem ar_m_f (op : UInt8) (xn : Bool) (xv : Int) (xs : ByteArray) (yn : Bool) (yv : Int) (ys : ByteArray) (ka sa kb sb : Int) (w : World)  (s : Int) (h0 : arithTy op ⟨ka, sa⟩ ⟨kb, sb⟩ = some s) (h1 : fitsB ⟨ka, sa⟩ true ⟨xn, xv, xs⟩ = true) (h2 : fitsB ⟨kb, sb⟩ true ⟨yn, yv, ys⟩ = true) (hx : xn = false) (hy : yn = false) (hxv : I64 xv) (hyv : I64 yv) (h43 : (op == 43) = false) (h45 : (op == 45) = true) (p : Int) (hxs : scaleP xv sa s = (p, 0)) (q e2 : Int) (hys : scaleP yv sb s = (q, e2)) (he : e2 ≠ 0) : Calls Tryz.prog 5 #[.int .u8 (op.toNat : Int), .agg #[.bool xn, .int .i64 xv, .string xs], .agg #[.bool yn, .int .i64 yv, .string ys], .agg #[.int .i64 ka, .int .i64 sa], .agg #[.int .i64 kb, .int .i64 sb]] w (ArS w noVa 11) := by
  have HT0 := Lib.hid h0
  clear h0
  have H1 := Lib.hid h1
  clear h1
  have H2 := Lib.hid h2
  clear h2
  subst hx
  subst hy
  have HXV := Lib.hid hxv
  have HYV := Lib.hid hyv
  clear hxv hyv
  have e43 : ((op.toNat : Int) == 43) = false := by rw [show (43 : Int) = ((43 : Nat) : Int) from rfl, op_num op 43 (by decide)]; exact h43
  have e45 : ((op.toNat : Int) == 45) = true := by rw [show (45 : Int) = ((45 : Nat) : Int) from rfl, op_num op 45 (by decide)]; exact h45
  clear h43 h45
  have HXS := Lib.hid hxs
  have HYS := Lib.hid hys
  clear hxs hys
  have ee : (e2 != 0) = true := bne_iff_ne.2 he
  clear he
  obtain ⟨hA0, hB0, hS0⟩ := args5_at w ⟨false, xv, xs⟩ ⟨false, yv, ys⟩ ⟨ka, sa⟩ ⟨kb, sb⟩
  have HA := Lib.hid hA0
  have CX := Lib.hid hB0
  clear hA0 hB0 hS0
  go_enter Tryz.func5, Tryz.ntmps5
  go_wp2_with fail
  refine (aty_any op ka sa kb sb _ _ HT0.out).mono ?_
  rintro e wA ⟨rfl, cA⟩
  have HA := Lib.hid (HA.out.later cA)
  have CX := Lib.hid (CX.out.trans (cA.mono CX.out.size))
  obtain ⟨K, hK⟩ : ∃ K, (typed s).kind = K := ⟨_, rfl⟩
  rw [hK, typed_scale]
  clear hK
  clear cA
  have hlt : w.heap.size + 1 + 1 + 1 + 1 < wA.heap.size := (Array.getElem?_eq_some_iff.1 HA.out.2.2.2.2).1
  have HT := Lib.hid (show (wA.alloc (.cells #[.int .i64 K, .int .i64 s] 25)).heap[wA.heap.size]? = some (tyO ⟨K, s⟩) from alloc_at _ _ _ rfl)
  have HA := Lib.hid (HA.out.later ((Below.refl _ _).alloc (Nat.le_refl _) (.cells #[.int .i64 K, .int .i64 s] 25)))
  have CX := Lib.hid (CX.out.alloc CX.out.size (.cells #[.int .i64 K, .int .i64 s] 25))
  obtain ⟨Tb, hTb⟩ : ∃ Tb, wA.heap.size = Tb := ⟨_, rfl⟩
  have HTL := Lib.hid (show w.heap.size + 1 + 1 + 1 + 1 < Tb by omega)
  go_upto_region 2 with fail
  obtain ⟨W1, hW1⟩ : ∃ W1, wA.alloc (.cells #[.int .i64 K, .int .i64 s] 25) = W1 := ⟨_, rfl⟩
  rw [hTb, hW1] at HT
  rw [hW1] at HA CX
  rw [hW1]
  (try rw [hTb])
  clear hTb hW1 hlt
  obtain ⟨x0, x1, x2, fx, y0, y1, y2, fy⟩ := HA.out.cellsX
  obtain ⟨a0, a1, b0, b1⟩ := HA.out.cellsT
  obtain ⟨r0, r1, r2, fr⟩ := HA.out.cellsR
  have t1 := cell_of_row W1 Tb 1 _ _ _ HT.out
  go_wp2_with fail
  refine (fits_any ka sa true false xv xs _ _ H1.out).mono ?_
  rintro e w39 ⟨rfl, c39⟩
  have HA := Lib.hid (HA.out.later c39)
  have CX := Lib.hid (CX.out.trans (c39.mono CX.out.size))
  have HT := Lib.hid (tyO_later HT.out c39)
  clear c39 t1
  clear x0 x1 x2 fx y0 y1 y2 fy a0 a1 b0 b1 r0 r1 r2 fr
  obtain ⟨x0, x1, x2, fx, y0, y1, y2, fy⟩ := HA.out.cellsX
  obtain ⟨a0, a1, b0, b1⟩ := HA.out.cellsT
  obtain ⟨r0, r1, r2, fr⟩ := HA.out.cellsR
  have t1 := cell_of_row w39 Tb 1 _ _ _ HT.out
  go_wp2_with fail
  refine (fits_any kb sb true false yv ys _ _ H2.out).mono ?_
  rintro e w40 ⟨rfl, c40⟩
  have HA := Lib.hid (HA.out.later c40)
  have CX := Lib.hid (CX.out.trans (c40.mono CX.out.size))
  have HT := Lib.hid (tyO_later HT.out c40)
  clear c40 t1
  clear x0 x1 x2 fx y0 y1 y2 fy a0 a1 b0 b1 r0 r1 r2 fr
  obtain ⟨x0, x1, x2, fx, y0, y1, y2, fy⟩ := HA.out.cellsX
  obtain ⟨a0, a1, b0, b1⟩ := HA.out.cellsT
  obtain ⟨r0, r1, r2, fr⟩ := HA.out.cellsR
  have t1 := cell_of_row w40 Tb 1 _ _ _ HT.out
  go_wp2_with fail
  refine (scale_any xv sa s HXV.out _ _ _ HXS.out).mono ?_
  rintro e w41 ⟨rfl, c41⟩
  have HA := Lib.hid ((HA.out.later c41).setX p)
  have CX := Lib.hid (show Below w.heap.size w (w41.setCell ⟨w.heap.size, 1, none⟩ (.int .i64 p)) from (CX.out.trans (c41.mono CX.out.size)).setCell (by simp) _)
  have HT := Lib.hid (tyO_set (b := w.heap.size) (j := 1) (u := .int .i64 p) (tyO_later HT.out c41) (by have := HTL.out; omega))
  have g1 : w41.cell? ⟨w.heap.size, 1, none⟩ = some (.int .i64 xv) := cell_later c41 x1
  have g2 : w41.frozen? ⟨w.heap.size, 1, none⟩ = false := (c41.frozen (p := ⟨w.heap.size, 1, none⟩) (World.block_lt_of_cell? _ _ x1)).trans (fx 1)
  clear c41 t1
  clear x0 x1 x2 fx y0 y1 y2 fy a0 a1 b0 b1 r0 r1 r2 fr
  go_upto_region 11 with fail
  obtain ⟨V41, hV41⟩ : ∃ V, w41.setCell ⟨w.heap.size, 1, none⟩ (.int .i64 p) = V := ⟨_, rfl⟩
  rw [hV41] at HA CX HT ⊢
  clear hV41 g1 g2
  obtain ⟨x0, x1, x2, fx, y0, y1, y2, fy⟩ := HA.out.cellsX
  obtain ⟨a0, a1, b0, b1⟩ := HA.out.cellsT
  obtain ⟨r0, r1, r2, fr⟩ := HA.out.cellsR
  have t1 := cell_of_row V41 Tb 1 _ _ _ HT.out
  go_wp2_with fail
  refine (scale_any yv sb s HYV.out _ _ _ HYS.out).mono ?_
  rintro e w42 ⟨rfl, c42⟩
  have HA := Lib.hid ((HA.out.later c42).setY q)
  have CX := Lib.hid (show Below w.heap.size w (w42.setCell ⟨w.heap.size + 1, 1, none⟩ (.int .i64 q)) from (CX.out.trans (c42.mono CX.out.size)).setCell (by simp) _)
  have HT := Lib.hid (tyO_set (b := w.heap.size + 1) (j := 1) (u := .int .i64 q) (tyO_later HT.out c42) (by have := HTL.out; omega))
  have g1 : w42.cell? ⟨w.heap.size + 1, 1, none⟩ = some (.int .i64 yv) := cell_later c42 y1
  have g2 : w42.frozen? ⟨w.heap.size + 1, 1, none⟩ = false := (c42.frozen (p := ⟨w.heap.size + 1, 1, none⟩) (World.block_lt_of_cell? _ _ y1)).trans (fy 1)
  clear c42 t1
  clear x0 x1 x2 fx y0 y1 y2 fy a0 a1 b0 b1 r0 r1 r2 fr
  go_upto_region 12 with fail
  obtain ⟨V42, hV42⟩ : ∃ V, w42.setCell ⟨w.heap.size + 1, 1, none⟩ (.int .i64 q) = V := ⟨_, rfl⟩
  rw [hV42] at HA CX HT ⊢
  clear hV42 g1 g2
  obtain ⟨x0, x1, x2, fx, y0, y1, y2, fy⟩ := HA.out.cellsX
  obtain ⟨a0, a1, b0, b1⟩ := HA.out.cellsT
  obtain ⟨r0, r1, r2, fr⟩ := HA.out.cellsR
  have t1 := cell_of_row V42 Tb 1 _ _ _ HT.out
  go_wp2_with fail
  exact bodyPost_ret (v := .tuple #[.agg #[.bool false, .int .i64 0, .string ⟨#[]⟩], .int .i64 11]) (by simp [results, Tryz.results5, go_sem, r0, r1, r2, fr]) rfl (ar_end noVa 11 CX.out _ _ _)
set_option maxRecDepth 100000 in
set_option maxHeartbeats 4000000 in
theorem ar_m_n (op : UInt8) (xn : Bool) (xv : Int) (xs : ByteArray) (yn : Bool) (yv : Int) (ys : ByteArray) (ka sa kb sb : Int) (w : World)  (s : Int) (h0 : arithTy op ⟨ka, sa⟩ ⟨kb, sb⟩ = some s) (h1 : fitsB ⟨ka, sa⟩ true ⟨xn, xv, xs⟩ = true) (h2 : fitsB ⟨kb, sb⟩ true ⟨yn, yv, ys⟩ = true) (hx : xn = false) (hy : yn = false) (hxv : I64 xv) (hyv : I64 yv) (h43 : (op == 43) = false) (h45 : (op == 45) = true) (p : Int) (hxs : scaleP xv sa s = (p, 0)) (q : Int) (hys : scaleP yv sb s = (q, 0)) (hp : I64 p) (hq : I64 q) (hr : reckonP op p q = none) : Calls Tryz.prog 5 #[.int .u8 (op.toNat : Int), .agg #[.bool xn, .int .i64 xv, .string xs], .agg #[.bool yn, .int .i64 yv, .string ys], .agg #[.int .i64 ka, .int .i64 sa], .agg #[.int .i64 kb, .int .i64 sb]] w (ArS w noVa 11) := by
  have HT0 := Lib.hid h0
  clear h0
  have H1 := Lib.hid h1
  clear h1
  have H2 := Lib.hid h2
  clear h2
  subst hx
  subst hy
  have HXV := Lib.hid hxv
  have HYV := Lib.hid hyv
  clear hxv hyv
  have e43 : ((op.toNat : Int) == 43) = false := by rw [show (43 : Int) = ((43 : Nat) : Int) from rfl, op_num op 43 (by decide)]; exact h43
  have e45 : ((op.toNat : Int) == 45) = true := by rw [show (45 : Int) = ((45 : Nat) : Int) from rfl, op_num op 45 (by decide)]; exact h45
  clear h43 h45
  have HXS := Lib.hid hxs
  have HYS := Lib.hid hys
  clear hxs hys
  have HP := Lib.hid hp
  have HQ := Lib.hid hq
  have HR := Lib.hid hr
  clear hp hq hr
  obtain ⟨hA0, hB0, hS0⟩ := args5_at w ⟨false, xv, xs⟩ ⟨false, yv, ys⟩ ⟨ka, sa⟩ ⟨kb, sb⟩
  have HA := Lib.hid hA0
  have CX := Lib.hid hB0
  clear hA0 hB0 hS0
  go_enter Tryz.func5, Tryz.ntmps5
  go_wp2_with fail
  refine (aty_any op ka sa kb sb _ _ HT0.out).mono ?_
  rintro e wA ⟨rfl, cA⟩
  have HA := Lib.hid (HA.out.later cA)
  have CX := Lib.hid (CX.out.trans (cA.mono CX.out.size))
  obtain ⟨K, hK⟩ : ∃ K, (typed s).kind = K := ⟨_, rfl⟩
  rw [hK, typed_scale]
  clear hK
  clear cA
  have hlt : w.heap.size + 1 + 1 + 1 + 1 < wA.heap.size := (Array.getElem?_eq_some_iff.1 HA.out.2.2.2.2).1
  have HT := Lib.hid (show (wA.alloc (.cells #[.int .i64 K, .int .i64 s] 25)).heap[wA.heap.size]? = some (tyO ⟨K, s⟩) from alloc_at _ _ _ rfl)
  have HA := Lib.hid (HA.out.later ((Below.refl _ _).alloc (Nat.le_refl _) (.cells #[.int .i64 K, .int .i64 s] 25)))
  have CX := Lib.hid (CX.out.alloc CX.out.size (.cells #[.int .i64 K, .int .i64 s] 25))
  obtain ⟨Tb, hTb⟩ : ∃ Tb, wA.heap.size = Tb := ⟨_, rfl⟩
  have HTL := Lib.hid (show w.heap.size + 1 + 1 + 1 + 1 < Tb by omega)
  go_upto_region 2 with fail
  obtain ⟨W1, hW1⟩ : ∃ W1, wA.alloc (.cells #[.int .i64 K, .int .i64 s] 25) = W1 := ⟨_, rfl⟩
  rw [hTb, hW1] at HT
  rw [hW1] at HA CX
  rw [hW1]
  (try rw [hTb])
  clear hTb hW1 hlt
  obtain ⟨x0, x1, x2, fx, y0, y1, y2, fy⟩ := HA.out.cellsX
  obtain ⟨a0, a1, b0, b1⟩ := HA.out.cellsT
  obtain ⟨r0, r1, r2, fr⟩ := HA.out.cellsR
  have t1 := cell_of_row W1 Tb 1 _ _ _ HT.out
  go_wp2_with fail
  refine (fits_any ka sa true false xv xs _ _ H1.out).mono ?_
  rintro e w43 ⟨rfl, c43⟩
  have HA := Lib.hid (HA.out.later c43)
  have CX := Lib.hid (CX.out.trans (c43.mono CX.out.size))
  have HT := Lib.hid (tyO_later HT.out c43)
  clear c43 t1
  clear x0 x1 x2 fx y0 y1 y2 fy a0 a1 b0 b1 r0 r1 r2 fr
  obtain ⟨x0, x1, x2, fx, y0, y1, y2, fy⟩ := HA.out.cellsX
  obtain ⟨a0, a1, b0, b1⟩ := HA.out.cellsT
  obtain ⟨r0, r1, r2, fr⟩ := HA.out.cellsR
  have t1 := cell_of_row w43 Tb 1 _ _ _ HT.out
  go_wp2_with fail
  refine (fits_any kb sb true false yv ys _ _ H2.out).mono ?_
  rintro e w44 ⟨rfl, c44⟩
  have HA := Lib.hid (HA.out.later c44)
  have CX := Lib.hid (CX.out.trans (c44.mono CX.out.size))
  have HT := Lib.hid (tyO_later HT.out c44)
  clear c44 t1
  clear x0 x1 x2 fx y0 y1 y2 fy a0 a1 b0 b1 r0 r1 r2 fr
  obtain ⟨x0, x1, x2, fx, y0, y1, y2, fy⟩ := HA.out.cellsX
  obtain ⟨a0, a1, b0, b1⟩ := HA.out.cellsT
  obtain ⟨r0, r1, r2, fr⟩ := HA.out.cellsR
  have t1 := cell_of_row w44 Tb 1 _ _ _ HT.out
  go_wp2_with fail
  refine (scale_any xv sa s HXV.out _ _ _ HXS.out).mono ?_
  rintro e w45 ⟨rfl, c45⟩
  have HA := Lib.hid ((HA.out.later c45).setX p)
  have CX := Lib.hid (show Below w.heap.size w (w45.setCell ⟨w.heap.size, 1, none⟩ (.int .i64 p)) from (CX.out.trans (c45.mono CX.out.size)).setCell (by simp) _)
  have HT := Lib.hid (tyO_set (b := w.heap.size) (j := 1) (u := .int .i64 p) (tyO_later HT.out c45) (by have := HTL.out; omega))
  have g1 : w45.cell? ⟨w.heap.size, 1, none⟩ = some (.int .i64 xv) := cell_later c45 x1
  have g2 : w45.frozen? ⟨w.heap.size, 1, none⟩ = false := (c45.frozen (p := ⟨w.heap.size, 1, none⟩) (World.block_lt_of_cell? _ _ x1)).trans (fx 1)
  clear c45 t1
  clear x0 x1 x2 fx y0 y1 y2 fy a0 a1 b0 b1 r0 r1 r2 fr
  go_upto_region 11 with fail
  obtain ⟨V45, hV45⟩ : ∃ V, w45.setCell ⟨w.heap.size, 1, none⟩ (.int .i64 p) = V := ⟨_, rfl⟩
  rw [hV45] at HA CX HT ⊢
  clear hV45 g1 g2
  obtain ⟨x0, x1, x2, fx, y0, y1, y2, fy⟩ := HA.out.cellsX
  obtain ⟨a0, a1, b0, b1⟩ := HA.out.cellsT
  obtain ⟨r0, r1, r2, fr⟩ := HA.out.cellsR
  have t1 := cell_of_row V45 Tb 1 _ _ _ HT.out
  go_wp2_with fail
  refine (scale_any yv sb s HYV.out _ _ _ HYS.out).mono ?_
  rintro e w46 ⟨rfl, c46⟩
  have HA := Lib.hid ((HA.out.later c46).setY q)
  have CX := Lib.hid (show Below w.heap.size w (w46.setCell ⟨w.heap.size + 1, 1, none⟩ (.int .i64 q)) from (CX.out.trans (c46.mono CX.out.size)).setCell (by simp) _)
  have HT := Lib.hid (tyO_set (b := w.heap.size + 1) (j := 1) (u := .int .i64 q) (tyO_later HT.out c46) (by have := HTL.out; omega))
  have g1 : w46.cell? ⟨w.heap.size + 1, 1, none⟩ = some (.int .i64 yv) := cell_later c46 y1
  have g2 : w46.frozen? ⟨w.heap.size + 1, 1, none⟩ = false := (c46.frozen (p := ⟨w.heap.size + 1, 1, none⟩) (World.block_lt_of_cell? _ _ y1)).trans (fy 1)
  clear c46 t1
  clear x0 x1 x2 fx y0 y1 y2 fy a0 a1 b0 b1 r0 r1 r2 fr
  go_upto_region 12 with fail
  obtain ⟨V46, hV46⟩ : ∃ V, w46.setCell ⟨w.heap.size + 1, 1, none⟩ (.int .i64 q) = V := ⟨_, rfl⟩
  rw [hV46] at HA CX HT ⊢
  clear hV46 g1 g2
  obtain ⟨x0, x1, x2, fx, y0, y1, y2, fy⟩ := HA.out.cellsX
  obtain ⟨a0, a1, b0, b1⟩ := HA.out.cellsT
  obtain ⟨r0, r1, r2, fr⟩ := HA.out.cellsR
  have t1 := cell_of_row V46 Tb 1 _ _ _ HT.out
  go_wp2_with fail
  refine (reckon_any op p q HP.out HQ.out _ _ HR.out).mono ?_
  rintro e w47 ⟨u, ok, rfl, hok, hu, c47⟩
  have HA := Lib.hid (HA.out.later c47)
  have CX := Lib.hid (CX.out.trans (c47.mono CX.out.size))
  clear c47 t1
  clear x0 x1 x2 fx y0 y1 y2 fy a0 a1 b0 b1 r0 r1 r2 fr
  obtain ⟨x0, x1, x2, fx, y0, y1, y2, fy⟩ := HA.out.cellsX
  obtain ⟨a0, a1, b0, b1⟩ := HA.out.cellsT
  obtain ⟨r0, r1, r2, fr⟩ := HA.out.cellsR
  obtain rfl : ok = false := hok
  clear hu
  go_wp2_with fail
  exact bodyPost_ret (v := .tuple #[.agg #[.bool false, .int .i64 0, .string ⟨#[]⟩], .int .i64 11]) (by simp [results, Tryz.results5, go_sem, r0, r1, r2, fr]) rfl (ar_end noVa 11 CX.out _ _ _)
set_option maxRecDepth 100000 in
set_option maxHeartbeats 4000000 in
theorem ar_m_y (op : UInt8) (xn : Bool) (xv : Int) (xs : ByteArray) (yn : Bool) (yv : Int) (ys : ByteArray) (ka sa kb sb : Int) (w : World)  (s : Int) (h0 : arithTy op ⟨ka, sa⟩ ⟨kb, sb⟩ = some s) (h1 : fitsB ⟨ka, sa⟩ true ⟨xn, xv, xs⟩ = true) (h2 : fitsB ⟨kb, sb⟩ true ⟨yn, yv, ys⟩ = true) (hx : xn = false) (hy : yn = false) (hxv : I64 xv) (hyv : I64 yv) (h43 : (op == 43) = false) (h45 : (op == 45) = true) (p : Int) (hxs : scaleP xv sa s = (p, 0)) (q : Int) (hys : scaleP yv sb s = (q, 0)) (hp : I64 p) (hq : I64 q) (z : Int) (hr : reckonP op p q = some z) : Calls Tryz.prog 5 #[.int .u8 (op.toNat : Int), .agg #[.bool xn, .int .i64 xv, .string xs], .agg #[.bool yn, .int .i64 yv, .string ys], .agg #[.int .i64 ka, .int .i64 sa], .agg #[.int .i64 kb, .int .i64 sb]] w (ArS w (numVa z) 0) := by
  have HT0 := Lib.hid h0
  clear h0
  have H1 := Lib.hid h1
  clear h1
  have H2 := Lib.hid h2
  clear h2
  subst hx
  subst hy
  have HXV := Lib.hid hxv
  have HYV := Lib.hid hyv
  clear hxv hyv
  have e43 : ((op.toNat : Int) == 43) = false := by rw [show (43 : Int) = ((43 : Nat) : Int) from rfl, op_num op 43 (by decide)]; exact h43
  have e45 : ((op.toNat : Int) == 45) = true := by rw [show (45 : Int) = ((45 : Nat) : Int) from rfl, op_num op 45 (by decide)]; exact h45
  clear h43 h45
  have HXS := Lib.hid hxs
  have HYS := Lib.hid hys
  clear hxs hys
  have HP := Lib.hid hp
  have HQ := Lib.hid hq
  have HR := Lib.hid hr
  clear hp hq hr
  obtain ⟨hA0, hB0, hS0⟩ := args5_at w ⟨false, xv, xs⟩ ⟨false, yv, ys⟩ ⟨ka, sa⟩ ⟨kb, sb⟩
  have HA := Lib.hid hA0
  have CX := Lib.hid hB0
  clear hA0 hB0 hS0
  go_enter Tryz.func5, Tryz.ntmps5
  go_wp2_with fail
  refine (aty_any op ka sa kb sb _ _ HT0.out).mono ?_
  rintro e wA ⟨rfl, cA⟩
  have HA := Lib.hid (HA.out.later cA)
  have CX := Lib.hid (CX.out.trans (cA.mono CX.out.size))
  obtain ⟨K, hK⟩ : ∃ K, (typed s).kind = K := ⟨_, rfl⟩
  rw [hK, typed_scale]
  clear hK
  clear cA
  have hlt : w.heap.size + 1 + 1 + 1 + 1 < wA.heap.size := (Array.getElem?_eq_some_iff.1 HA.out.2.2.2.2).1
  have HT := Lib.hid (show (wA.alloc (.cells #[.int .i64 K, .int .i64 s] 25)).heap[wA.heap.size]? = some (tyO ⟨K, s⟩) from alloc_at _ _ _ rfl)
  have HA := Lib.hid (HA.out.later ((Below.refl _ _).alloc (Nat.le_refl _) (.cells #[.int .i64 K, .int .i64 s] 25)))
  have CX := Lib.hid (CX.out.alloc CX.out.size (.cells #[.int .i64 K, .int .i64 s] 25))
  obtain ⟨Tb, hTb⟩ : ∃ Tb, wA.heap.size = Tb := ⟨_, rfl⟩
  have HTL := Lib.hid (show w.heap.size + 1 + 1 + 1 + 1 < Tb by omega)
  go_upto_region 2 with fail
  obtain ⟨W1, hW1⟩ : ∃ W1, wA.alloc (.cells #[.int .i64 K, .int .i64 s] 25) = W1 := ⟨_, rfl⟩
  rw [hTb, hW1] at HT
  rw [hW1] at HA CX
  rw [hW1]
  (try rw [hTb])
  clear hTb hW1 hlt
  obtain ⟨x0, x1, x2, fx, y0, y1, y2, fy⟩ := HA.out.cellsX
  obtain ⟨a0, a1, b0, b1⟩ := HA.out.cellsT
  obtain ⟨r0, r1, r2, fr⟩ := HA.out.cellsR
  have t1 := cell_of_row W1 Tb 1 _ _ _ HT.out
  go_wp2_with fail
  refine (fits_any ka sa true false xv xs _ _ H1.out).mono ?_
  rintro e w48 ⟨rfl, c48⟩
  have HA := Lib.hid (HA.out.later c48)
  have CX := Lib.hid (CX.out.trans (c48.mono CX.out.size))
  have HT := Lib.hid (tyO_later HT.out c48)
  clear c48 t1
  clear x0 x1 x2 fx y0 y1 y2 fy a0 a1 b0 b1 r0 r1 r2 fr
  obtain ⟨x0, x1, x2, fx, y0, y1, y2, fy⟩ := HA.out.cellsX
  obtain ⟨a0, a1, b0, b1⟩ := HA.out.cellsT
  obtain ⟨r0, r1, r2, fr⟩ := HA.out.cellsR
  have t1 := cell_of_row w48 Tb 1 _ _ _ HT.out
  go_wp2_with fail
  refine (fits_any kb sb true false yv ys _ _ H2.out).mono ?_
  rintro e w49 ⟨rfl, c49⟩
  have HA := Lib.hid (HA.out.later c49)
  have CX := Lib.hid (CX.out.trans (c49.mono CX.out.size))
  have HT := Lib.hid (tyO_later HT.out c49)
  clear c49 t1
  clear x0 x1 x2 fx y0 y1 y2 fy a0 a1 b0 b1 r0 r1 r2 fr
  obtain ⟨x0, x1, x2, fx, y0, y1, y2, fy⟩ := HA.out.cellsX
  obtain ⟨a0, a1, b0, b1⟩ := HA.out.cellsT
  obtain ⟨r0, r1, r2, fr⟩ := HA.out.cellsR
  have t1 := cell_of_row w49 Tb 1 _ _ _ HT.out
  go_wp2_with fail
  refine (scale_any xv sa s HXV.out _ _ _ HXS.out).mono ?_
  rintro e w50 ⟨rfl, c50⟩
  have HA := Lib.hid ((HA.out.later c50).setX p)
  have CX := Lib.hid (show Below w.heap.size w (w50.setCell ⟨w.heap.size, 1, none⟩ (.int .i64 p)) from (CX.out.trans (c50.mono CX.out.size)).setCell (by simp) _)
  have HT := Lib.hid (tyO_set (b := w.heap.size) (j := 1) (u := .int .i64 p) (tyO_later HT.out c50) (by have := HTL.out; omega))
  have g1 : w50.cell? ⟨w.heap.size, 1, none⟩ = some (.int .i64 xv) := cell_later c50 x1
  have g2 : w50.frozen? ⟨w.heap.size, 1, none⟩ = false := (c50.frozen (p := ⟨w.heap.size, 1, none⟩) (World.block_lt_of_cell? _ _ x1)).trans (fx 1)
  clear c50 t1
  clear x0 x1 x2 fx y0 y1 y2 fy a0 a1 b0 b1 r0 r1 r2 fr
  go_upto_region 11 with fail
  obtain ⟨V50, hV50⟩ : ∃ V, w50.setCell ⟨w.heap.size, 1, none⟩ (.int .i64 p) = V := ⟨_, rfl⟩
  rw [hV50] at HA CX HT ⊢
  clear hV50 g1 g2
  obtain ⟨x0, x1, x2, fx, y0, y1, y2, fy⟩ := HA.out.cellsX
  obtain ⟨a0, a1, b0, b1⟩ := HA.out.cellsT
  obtain ⟨r0, r1, r2, fr⟩ := HA.out.cellsR
  have t1 := cell_of_row V50 Tb 1 _ _ _ HT.out
  go_wp2_with fail
  refine (scale_any yv sb s HYV.out _ _ _ HYS.out).mono ?_
  rintro e w51 ⟨rfl, c51⟩
  have HA := Lib.hid ((HA.out.later c51).setY q)
  have CX := Lib.hid (show Below w.heap.size w (w51.setCell ⟨w.heap.size + 1, 1, none⟩ (.int .i64 q)) from (CX.out.trans (c51.mono CX.out.size)).setCell (by simp) _)
  have HT := Lib.hid (tyO_set (b := w.heap.size + 1) (j := 1) (u := .int .i64 q) (tyO_later HT.out c51) (by have := HTL.out; omega))
  have g1 : w51.cell? ⟨w.heap.size + 1, 1, none⟩ = some (.int .i64 yv) := cell_later c51 y1
  have g2 : w51.frozen? ⟨w.heap.size + 1, 1, none⟩ = false := (c51.frozen (p := ⟨w.heap.size + 1, 1, none⟩) (World.block_lt_of_cell? _ _ y1)).trans (fy 1)
  clear c51 t1
  clear x0 x1 x2 fx y0 y1 y2 fy a0 a1 b0 b1 r0 r1 r2 fr
  go_upto_region 12 with fail
  obtain ⟨V51, hV51⟩ : ∃ V, w51.setCell ⟨w.heap.size + 1, 1, none⟩ (.int .i64 q) = V := ⟨_, rfl⟩
  rw [hV51] at HA CX HT ⊢
  clear hV51 g1 g2
  obtain ⟨x0, x1, x2, fx, y0, y1, y2, fy⟩ := HA.out.cellsX
  obtain ⟨a0, a1, b0, b1⟩ := HA.out.cellsT
  obtain ⟨r0, r1, r2, fr⟩ := HA.out.cellsR
  have t1 := cell_of_row V51 Tb 1 _ _ _ HT.out
  go_wp2_with fail
  refine (reckon_any op p q HP.out HQ.out _ _ HR.out).mono ?_
  rintro e w52 ⟨u, ok, rfl, hok, hu, c52⟩
  have HA := Lib.hid (HA.out.later c52)
  have CX := Lib.hid (CX.out.trans (c52.mono CX.out.size))
  clear c52 t1
  clear x0 x1 x2 fx y0 y1 y2 fy a0 a1 b0 b1 r0 r1 r2 fr
  obtain ⟨x0, x1, x2, fx, y0, y1, y2, fy⟩ := HA.out.cellsX
  obtain ⟨a0, a1, b0, b1⟩ := HA.out.cellsT
  obtain ⟨r0, r1, r2, fr⟩ := HA.out.cellsR
  obtain rfl : ok = true := hok
  obtain rfl : u = z := hu z rfl
  clear hu
  go_wp2_with fail
  exact bodyPost_ret (v := .tuple #[.agg #[.bool false, .int .i64 u, .string ⟨#[]⟩], .int .i64 0]) (by simp [results, Tryz.results5, go_sem, r0, r1, r2, fr]) rfl (ar_end (numVa u) 0 CX.out _ _ _)
set_option maxRecDepth 100000 in
set_option maxHeartbeats 4000000 in
theorem ar_o_n (op : UInt8) (xn : Bool) (xv : Int) (xs : ByteArray) (yn : Bool) (yv : Int) (ys : ByteArray) (ka sa kb sb : Int) (w : World)  (s : Int) (h0 : arithTy op ⟨ka, sa⟩ ⟨kb, sb⟩ = some s) (h1 : fitsB ⟨ka, sa⟩ true ⟨xn, xv, xs⟩ = true) (h2 : fitsB ⟨kb, sb⟩ true ⟨yn, yv, ys⟩ = true) (hx : xn = false) (hy : yn = false) (hxv : I64 xv) (hyv : I64 yv) (h43 : (op == 43) = false) (h45 : (op == 45) = false) (hr : reckonP op xv yv = none) : Calls Tryz.prog 5 #[.int .u8 (op.toNat : Int), .agg #[.bool xn, .int .i64 xv, .string xs], .agg #[.bool yn, .int .i64 yv, .string ys], .agg #[.int .i64 ka, .int .i64 sa], .agg #[.int .i64 kb, .int .i64 sb]] w (ArS w noVa 11) := by
  have HT0 := Lib.hid h0
  clear h0
  have H1 := Lib.hid h1
  clear h1
  have H2 := Lib.hid h2
  clear h2
  subst hx
  subst hy
  have e43 : ((op.toNat : Int) == 43) = false := by rw [show (43 : Int) = ((43 : Nat) : Int) from rfl, op_num op 43 (by decide)]; exact h43
  have e45 : ((op.toNat : Int) == 45) = false := by rw [show (45 : Int) = ((45 : Nat) : Int) from rfl, op_num op 45 (by decide)]; exact h45
  clear h43 h45
  have HP := Lib.hid hxv
  have HQ := Lib.hid hyv
  have HR := Lib.hid hr
  clear hxv hyv hr
  obtain ⟨hA0, hB0, hS0⟩ := args5_at w ⟨false, xv, xs⟩ ⟨false, yv, ys⟩ ⟨ka, sa⟩ ⟨kb, sb⟩
  have HA := Lib.hid hA0
  have CX := Lib.hid hB0
  clear hA0 hB0 hS0
  go_enter Tryz.func5, Tryz.ntmps5
  go_wp2_with fail
  refine (aty_any op ka sa kb sb _ _ HT0.out).mono ?_
  rintro e wA ⟨rfl, cA⟩
  have HA := Lib.hid (HA.out.later cA)
  have CX := Lib.hid (CX.out.trans (cA.mono CX.out.size))
  obtain ⟨K, hK⟩ : ∃ K, (typed s).kind = K := ⟨_, rfl⟩
  rw [hK, typed_scale]
  clear hK
  clear cA
  have hlt : w.heap.size + 1 + 1 + 1 + 1 < wA.heap.size := (Array.getElem?_eq_some_iff.1 HA.out.2.2.2.2).1
  have HT := Lib.hid (show (wA.alloc (.cells #[.int .i64 K, .int .i64 s] 25)).heap[wA.heap.size]? = some (tyO ⟨K, s⟩) from alloc_at _ _ _ rfl)
  have HA := Lib.hid (HA.out.later ((Below.refl _ _).alloc (Nat.le_refl _) (.cells #[.int .i64 K, .int .i64 s] 25)))
  have CX := Lib.hid (CX.out.alloc CX.out.size (.cells #[.int .i64 K, .int .i64 s] 25))
  obtain ⟨Tb, hTb⟩ : ∃ Tb, wA.heap.size = Tb := ⟨_, rfl⟩
  have HTL := Lib.hid (show w.heap.size + 1 + 1 + 1 + 1 < Tb by omega)
  go_upto_region 2 with fail
  obtain ⟨W1, hW1⟩ : ∃ W1, wA.alloc (.cells #[.int .i64 K, .int .i64 s] 25) = W1 := ⟨_, rfl⟩
  rw [hTb, hW1] at HT
  rw [hW1] at HA CX
  rw [hW1]
  (try rw [hTb])
  clear hTb hW1 hlt
  obtain ⟨x0, x1, x2, fx, y0, y1, y2, fy⟩ := HA.out.cellsX
  obtain ⟨a0, a1, b0, b1⟩ := HA.out.cellsT
  obtain ⟨r0, r1, r2, fr⟩ := HA.out.cellsR
  have t1 := cell_of_row W1 Tb 1 _ _ _ HT.out
  go_wp2_with fail
  refine (fits_any ka sa true false xv xs _ _ H1.out).mono ?_
  rintro e w53 ⟨rfl, c53⟩
  have HA := Lib.hid (HA.out.later c53)
  have CX := Lib.hid (CX.out.trans (c53.mono CX.out.size))
  have HT := Lib.hid (tyO_later HT.out c53)
  clear c53 t1
  clear x0 x1 x2 fx y0 y1 y2 fy a0 a1 b0 b1 r0 r1 r2 fr
  obtain ⟨x0, x1, x2, fx, y0, y1, y2, fy⟩ := HA.out.cellsX
  obtain ⟨a0, a1, b0, b1⟩ := HA.out.cellsT
  obtain ⟨r0, r1, r2, fr⟩ := HA.out.cellsR
  have t1 := cell_of_row w53 Tb 1 _ _ _ HT.out
  go_wp2_with fail
  refine (fits_any kb sb true false yv ys _ _ H2.out).mono ?_
  rintro e w54 ⟨rfl, c54⟩
  have HA := Lib.hid (HA.out.later c54)
  have CX := Lib.hid (CX.out.trans (c54.mono CX.out.size))
  have HT := Lib.hid (tyO_later HT.out c54)
  clear c54 t1
  clear x0 x1 x2 fx y0 y1 y2 fy a0 a1 b0 b1 r0 r1 r2 fr
  obtain ⟨x0, x1, x2, fx, y0, y1, y2, fy⟩ := HA.out.cellsX
  obtain ⟨a0, a1, b0, b1⟩ := HA.out.cellsT
  obtain ⟨r0, r1, r2, fr⟩ := HA.out.cellsR
  have t1 := cell_of_row w54 Tb 1 _ _ _ HT.out
  go_wp2_with fail
  refine (reckon_any op xv yv HP.out HQ.out _ _ HR.out).mono ?_
  rintro e w55 ⟨u, ok, rfl, hok, hu, c55⟩
  have HA := Lib.hid (HA.out.later c55)
  have CX := Lib.hid (CX.out.trans (c55.mono CX.out.size))
  clear c55 t1
  clear x0 x1 x2 fx y0 y1 y2 fy a0 a1 b0 b1 r0 r1 r2 fr
  obtain ⟨x0, x1, x2, fx, y0, y1, y2, fy⟩ := HA.out.cellsX
  obtain ⟨a0, a1, b0, b1⟩ := HA.out.cellsT
  obtain ⟨r0, r1, r2, fr⟩ := HA.out.cellsR
  obtain rfl : ok = false := hok
  clear hu
  go_wp2_with fail
  exact bodyPost_ret (v := .tuple #[.agg #[.bool false, .int .i64 0, .string ⟨#[]⟩], .int .i64 11]) (by simp [results, Tryz.results5, go_sem, r0, r1, r2, fr]) rfl (ar_end noVa 11 CX.out _ _ _)
set_option maxRecDepth 100000 in
set_option maxHeartbeats 4000000 in
theorem ar_o_y (op : UInt8) (xn : Bool) (xv : Int) (xs : ByteArray) (yn : Bool) (yv : Int) (ys : ByteArray) (ka sa kb sb : Int) (w : World)  (s : Int) (h0 : arithTy op ⟨ka, sa⟩ ⟨kb, sb⟩ = some s) (h1 : fitsB ⟨ka, sa⟩ true ⟨xn, xv, xs⟩ = true) (h2 : fitsB ⟨kb, sb⟩ true ⟨yn, yv, ys⟩ = true) (hx : xn = false) (hy : yn = false) (hxv : I64 xv) (hyv : I64 yv) (h43 : (op == 43) = false) (h45 : (op == 45) = false) (z : Int) (hr : reckonP op xv yv = some z) : Calls Tryz.prog 5 #[.int .u8 (op.toNat : Int), .agg #[.bool xn, .int .i64 xv, .string xs], .agg #[.bool yn, .int .i64 yv, .string ys], .agg #[.int .i64 ka, .int .i64 sa], .agg #[.int .i64 kb, .int .i64 sb]] w (ArS w (numVa z) 0) := by
  have HT0 := Lib.hid h0
  clear h0
  have H1 := Lib.hid h1
  clear h1
  have H2 := Lib.hid h2
  clear h2
  subst hx
  subst hy
  have e43 : ((op.toNat : Int) == 43) = false := by rw [show (43 : Int) = ((43 : Nat) : Int) from rfl, op_num op 43 (by decide)]; exact h43
  have e45 : ((op.toNat : Int) == 45) = false := by rw [show (45 : Int) = ((45 : Nat) : Int) from rfl, op_num op 45 (by decide)]; exact h45
  clear h43 h45
  have HP := Lib.hid hxv
  have HQ := Lib.hid hyv
  have HR := Lib.hid hr
  clear hxv hyv hr
  obtain ⟨hA0, hB0, hS0⟩ := args5_at w ⟨false, xv, xs⟩ ⟨false, yv, ys⟩ ⟨ka, sa⟩ ⟨kb, sb⟩
  have HA := Lib.hid hA0
  have CX := Lib.hid hB0
  clear hA0 hB0 hS0
  go_enter Tryz.func5, Tryz.ntmps5
  go_wp2_with fail
  refine (aty_any op ka sa kb sb _ _ HT0.out).mono ?_
  rintro e wA ⟨rfl, cA⟩
  have HA := Lib.hid (HA.out.later cA)
  have CX := Lib.hid (CX.out.trans (cA.mono CX.out.size))
  obtain ⟨K, hK⟩ : ∃ K, (typed s).kind = K := ⟨_, rfl⟩
  rw [hK, typed_scale]
  clear hK
  clear cA
  have hlt : w.heap.size + 1 + 1 + 1 + 1 < wA.heap.size := (Array.getElem?_eq_some_iff.1 HA.out.2.2.2.2).1
  have HT := Lib.hid (show (wA.alloc (.cells #[.int .i64 K, .int .i64 s] 25)).heap[wA.heap.size]? = some (tyO ⟨K, s⟩) from alloc_at _ _ _ rfl)
  have HA := Lib.hid (HA.out.later ((Below.refl _ _).alloc (Nat.le_refl _) (.cells #[.int .i64 K, .int .i64 s] 25)))
  have CX := Lib.hid (CX.out.alloc CX.out.size (.cells #[.int .i64 K, .int .i64 s] 25))
  obtain ⟨Tb, hTb⟩ : ∃ Tb, wA.heap.size = Tb := ⟨_, rfl⟩
  have HTL := Lib.hid (show w.heap.size + 1 + 1 + 1 + 1 < Tb by omega)
  go_upto_region 2 with fail
  obtain ⟨W1, hW1⟩ : ∃ W1, wA.alloc (.cells #[.int .i64 K, .int .i64 s] 25) = W1 := ⟨_, rfl⟩
  rw [hTb, hW1] at HT
  rw [hW1] at HA CX
  rw [hW1]
  (try rw [hTb])
  clear hTb hW1 hlt
  obtain ⟨x0, x1, x2, fx, y0, y1, y2, fy⟩ := HA.out.cellsX
  obtain ⟨a0, a1, b0, b1⟩ := HA.out.cellsT
  obtain ⟨r0, r1, r2, fr⟩ := HA.out.cellsR
  have t1 := cell_of_row W1 Tb 1 _ _ _ HT.out
  go_wp2_with fail
  refine (fits_any ka sa true false xv xs _ _ H1.out).mono ?_
  rintro e w56 ⟨rfl, c56⟩
  have HA := Lib.hid (HA.out.later c56)
  have CX := Lib.hid (CX.out.trans (c56.mono CX.out.size))
  have HT := Lib.hid (tyO_later HT.out c56)
  clear c56 t1
  clear x0 x1 x2 fx y0 y1 y2 fy a0 a1 b0 b1 r0 r1 r2 fr
  obtain ⟨x0, x1, x2, fx, y0, y1, y2, fy⟩ := HA.out.cellsX
  obtain ⟨a0, a1, b0, b1⟩ := HA.out.cellsT
  obtain ⟨r0, r1, r2, fr⟩ := HA.out.cellsR
  have t1 := cell_of_row w56 Tb 1 _ _ _ HT.out
  go_wp2_with fail
  refine (fits_any kb sb true false yv ys _ _ H2.out).mono ?_
  rintro e w57 ⟨rfl, c57⟩
  have HA := Lib.hid (HA.out.later c57)
  have CX := Lib.hid (CX.out.trans (c57.mono CX.out.size))
  have HT := Lib.hid (tyO_later HT.out c57)
  clear c57 t1
  clear x0 x1 x2 fx y0 y1 y2 fy a0 a1 b0 b1 r0 r1 r2 fr
  obtain ⟨x0, x1, x2, fx, y0, y1, y2, fy⟩ := HA.out.cellsX
  obtain ⟨a0, a1, b0, b1⟩ := HA.out.cellsT
  obtain ⟨r0, r1, r2, fr⟩ := HA.out.cellsR
  have t1 := cell_of_row w57 Tb 1 _ _ _ HT.out
  go_wp2_with fail
  refine (reckon_any op xv yv HP.out HQ.out _ _ HR.out).mono ?_
  rintro e w58 ⟨u, ok, rfl, hok, hu, c58⟩
  have HA := Lib.hid (HA.out.later c58)
  have CX := Lib.hid (CX.out.trans (c58.mono CX.out.size))
  clear c58 t1
  clear x0 x1 x2 fx y0 y1 y2 fy a0 a1 b0 b1 r0 r1 r2 fr
  obtain ⟨x0, x1, x2, fx, y0, y1, y2, fy⟩ := HA.out.cellsX
  obtain ⟨a0, a1, b0, b1⟩ := HA.out.cellsT
  obtain ⟨r0, r1, r2, fr⟩ := HA.out.cellsR
  obtain rfl : ok = true := hok
  obtain rfl : u = z := hu z rfl
  clear hu
  go_wp2_with fail
  exact bodyPost_ret (v := .tuple #[.agg #[.bool false, .int .i64 u, .string ⟨#[]⟩], .int .i64 0]) (by simp [results, Tryz.results5, go_sem, r0, r1, r2, fr]) rfl (ar_end (numVa u) 0 CX.out _ _ _)
theorem scale_out {n fr tt v : Int} (hn : I64 n) (h : scaleP n fr tt = (v, 0)) : I64 v := by
  unfold scaleP at h
  by_cases h1 : fr < 0 ∨ tt < fr ∨ 9 < tt
  · rw [if_pos h1] at h; cases h
  · rw [if_neg h1] at h
    cases hf : fits (n * ten (tt - fr).toNat) with
    | false => rw [hf] at h; cases h
    | true =>
      rw [hf] at h
      simp only [if_true, Prod.mk.injEq] at h
      rw [← h.1]
      exact fits_iff.1 hf
theorem arith_any (op : UInt8) (x y : Va) (ta tb : Ty) (hx : I64 x.n) (hy : I64 y.n) (w : World) (r : Va) (e1 : Int) (h : arithP op x y ta tb = (r, e1)) : Calls Tryz.prog 5 #[.int .u8 (op.toNat : Int), .agg #[.bool x.null, .int .i64 x.n, .string x.s], .agg #[.bool y.null, .int .i64 y.n, .string y.s], .agg #[.int .i64 ta.kind, .int .i64 ta.scale], .agg #[.int .i64 tb.kind, .int .i64 tb.scale]] w (ArS w r e1) := by
  obtain ⟨xn, xv, xs⟩ := x
  obtain ⟨yn, yv, ys⟩ := y
  obtain ⟨ka, sa⟩ := ta
  obtain ⟨kb, sb⟩ := tb
  change I64 xv at hx
  change I64 yv at hy
  unfold arithP at h
  cases h0 : arithTy op ⟨ka, sa⟩ ⟨kb, sb⟩ with
  | none =>
    rw [h0] at h
    cases h
    exact ar_ty op xn xv xs yn yv ys ka sa kb sb w h0
  | some s =>
    rw [h0] at h
    cases h1 : fitsB ⟨ka, sa⟩ true ⟨xn, xv, xs⟩ with
    | false =>
      simp only [h1, Bool.not_false, Bool.true_or, if_true, Prod.mk.injEq] at h
      obtain ⟨rfl, rfl⟩ := h
      exact ar_fx op xn xv xs yn yv ys ka sa kb sb w s h0 h1
    | true =>
      cases h2 : fitsB ⟨kb, sb⟩ true ⟨yn, yv, ys⟩ with
      | false =>
        simp only [h1, h2, Bool.not_false, Bool.not_true, Bool.or_true, if_true, Prod.mk.injEq] at h
        obtain ⟨rfl, rfl⟩ := h
        exact ar_fy op xn xv xs yn yv ys ka sa kb sb w s h0 h1 h2
      | true =>
        simp only [h1, h2, Bool.not_true, Bool.or_self, Bool.false_eq_true, if_false] at h
        cases xn with
        | true =>
          simp only [Bool.true_or, if_true, Prod.mk.injEq] at h
          obtain ⟨rfl, rfl⟩ := h
          exact ar_nx op true xv xs yn yv ys ka sa kb sb w s h0 h1 h2 rfl
        | false =>
          cases yn with
          | true =>
            simp only [Bool.or_true, if_true, Prod.mk.injEq] at h
            obtain ⟨rfl, rfl⟩ := h
            exact ar_ny op false xv xs true yv ys ka sa kb sb w s h0 h1 h2 rfl rfl
          | false =>
            simp only [Bool.or_self, Bool.false_eq_true, if_false] at h
            unfold both at h
            have pm : (op == 43 || op == 45) = true → Calls Tryz.prog 5 #[.int .u8 (op.toNat : Int), .agg #[.bool false, .int .i64 xv, .string xs], .agg #[.bool false, .int .i64 yv, .string ys], .agg #[.int .i64 ka, .int .i64 sa], .agg #[.int .i64 kb, .int .i64 sb]] w (ArS w r e1) := fun ho => by
              simp only [ho, if_true] at h
              obtain ⟨p, e, hp⟩ : ∃ p e, scaleP xv sa s = (p, e) := ⟨_, _, rfl⟩
              obtain ⟨q, f, hq⟩ : ∃ q f, scaleP yv sb s = (q, f) := ⟨_, _, rfl⟩
              rw [hp, hq] at h
              simp only at h
              have hb : (op == 43) = true ∨ ((op == 43) = false ∧ (op == 45) = true) := by
                cases h43 : (op == 43)
                · rw [h43] at ho; exact .inr ⟨rfl, by simpa using ho⟩
                · exact .inl rfl
              by_cases he : e = 0
              · subst he
                by_cases hf : f = 0
                · subst hf
                  simp only [and_self, if_true] at h
                  cases hr : reckonP op p q with
                  | none =>
                    rw [hr] at h
                    cases h
                    rcases hb with h43 | ⟨h43, h45⟩
                    · exact ar_p_n op false xv xs false yv ys ka sa kb sb w s h0 h1 h2 rfl rfl hx hy h43 p hp q hq (scale_out hx hp) (scale_out hy hq) hr
                    · exact ar_m_n op false xv xs false yv ys ka sa kb sb w s h0 h1 h2 rfl rfl hx hy h43 h45 p hp q hq (scale_out hx hp) (scale_out hy hq) hr
                  | some z =>
                    rw [hr] at h
                    cases h
                    rcases hb with h43 | ⟨h43, h45⟩
                    · exact ar_p_y op false xv xs false yv ys ka sa kb sb w s h0 h1 h2 rfl rfl hx hy h43 p hp q hq (scale_out hx hp) (scale_out hy hq) z hr
                    · exact ar_m_y op false xv xs false yv ys ka sa kb sb w s h0 h1 h2 rfl rfl hx hy h43 h45 p hp q hq (scale_out hx hp) (scale_out hy hq) z hr
                · simp only [hf, and_false, if_false] at h
                  cases h
                  rcases hb with h43 | ⟨h43, h45⟩
                  · exact ar_p_f op false xv xs false yv ys ka sa kb sb w s h0 h1 h2 rfl rfl hx hy h43 p hp q f hq hf
                  · exact ar_m_f op false xv xs false yv ys ka sa kb sb w s h0 h1 h2 rfl rfl hx hy h43 h45 p hp q f hq hf
              · simp only [he, false_and, if_false] at h
                cases h
                rcases hb with h43 | ⟨h43, h45⟩
                · exact ar_p_e op false xv xs false yv ys ka sa kb sb w s h0 h1 h2 rfl rfl hx hy h43 p e hp q f hq he
                · exact ar_m_e op false xv xs false yv ys ka sa kb sb w s h0 h1 h2 rfl rfl hx hy h43 h45 p e hp q f hq he
            cases ho : (op == 43 || op == 45) with
            | true => exact pm ho
            | false =>
              simp only [ho, Bool.false_eq_true, if_false] at h
              simp only [Bool.or_eq_false_iff] at ho
              cases hr : reckonP op xv yv with
              | none =>
                rw [hr] at h
                cases h
                exact ar_o_n op false xv xs false yv ys ka sa kb sb w s h0 h1 h2 rfl rfl hx hy ho.1 ho.2 hr
              | some z =>
                rw [hr] at h
                cases h
                exact ar_o_y op false xv xs false yv ys ka sa kb sb w s h0 h1 h2 rfl rfl hx hy ho.1 ho.2 z hr
end Go.Proofs.YtekpdcofjhdiiaaGreatDoor.Val
