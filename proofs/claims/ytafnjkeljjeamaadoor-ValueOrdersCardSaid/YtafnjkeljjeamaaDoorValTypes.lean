/-
  The law of types: the walk. No condition beyond what each theorem names.
-/
import Derived.Test.YtafnjkeljjeamaaDoorValEx
import Derived.Test.YtafnjkeljjeamaaDoorValE
import Derived.Test.YtafnjkeljjeamaaDoorValC
namespace Go.Proofs.YtafnjkeljjeamaaDoor.Val
open Go.RowKit Go.Maps Go.Lib
set_option linter.unusedVariables false
set_option linter.unusedSimpArgs false
abbrev HeldT (w : World) (p q : Nat) (k s : Int) (vn : Bool) (n : Int) (S : ByteArray) (x0 x1 : Int) (W : World) : Prop :=
  W.cell? ⟨w.heap.size, 0, none⟩ = some (.int .i64 k) ∧ W.cell? ⟨w.heap.size, 1, none⟩ = some (.int .i64 s)
  ∧ W.cell? ⟨w.heap.size + 1 + 1, 0, none⟩ = some (.bool vn) ∧ W.cell? ⟨w.heap.size + 1 + 1, 1, none⟩ = some (.int .i64 n) ∧ W.cell? ⟨w.heap.size + 1 + 1, 2, none⟩ = some (.string S)
  ∧ W.cell? ⟨p, 0, none⟩ = some (.int .i64 x0) ∧ W.cell? ⟨p, 1, none⟩ = some (.int .i64 x1)
  ∧ W.cell? ⟨q, 0, none⟩ = some (.int .i64 x0) ∧ W.cell? ⟨q, 1, none⟩ = some (.int .i64 x1) ∧ Below w.heap.size w W
theorem heldT_later {w : World} {p q : Nat} {k s : Int} {vn : Bool} {n : Int} {S : ByteArray} {x0 x1 : Int} {W W' : World} (c : Below W.heap.size W W') (h : HeldT w p q k s vn n S x0 x1 W) : HeldT w p q k s vn n S x0 x1 W' := by
  obtain ⟨h0, h1, h2, h3, h4, h5, h6, h7, h8, h9⟩ := h
  exact ⟨cell_later c h0, cell_later c h1, cell_later c h2, cell_later c h3, cell_later c h4, cell_later c h5, cell_later c h6, cell_later c h7, cell_later c h8, h9.trans (c.mono h9.size)⟩
theorem three0 (w : World) (A B C : Array Value) (ta tb tc : TypeId) (i : Nat) : (((w.alloc (.cells A ta)).alloc (.cells B tb)).alloc (.cells C tc)).cell? ⟨w.heap.size, i, none⟩ = A[i]? := by
  rw [World.cell?_alloc_past _ _ _ (by simp; omega), World.cell?_alloc_past _ _ _ (by simp)]
  exact World.cell?_alloc_at _ _ _ _ rfl
theorem three1 (w : World) (A B C : Array Value) (ta tb tc : TypeId) (i : Nat) : (((w.alloc (.cells A ta)).alloc (.cells B tb)).alloc (.cells C tc)).cell? ⟨w.heap.size + 1, i, none⟩ = B[i]? := by
  rw [World.cell?_alloc_past _ _ _ (by simp)]
  exact World.cell?_alloc_at _ _ _ _ (by simp)
theorem three2 (w : World) (A B C : Array Value) (ta tb tc : TypeId) (i : Nat) : (((w.alloc (.cells A ta)).alloc (.cells B tb)).alloc (.cells C tc)).cell? ⟨w.heap.size + 1 + 1, i, none⟩ = C[i]? :=
  World.cell?_alloc_at _ _ _ _ (by simp)
def AtyK (f : FuncId) (op : Value) (ka sa kb sb x0 x1 : Int) (b : Bool) : Prop := ∀ W, Calls Tryd.prog f #[op, .agg #[.int .i64 ka, .int .i64 sa], .agg #[.int .i64 kb, .int .i64 sb]] W fun e w' => e = .returned (.tuple #[.agg #[.int .i64 x0, .int .i64 x1], .bool b]) ∧ Below W.heap.size W w'
theorem atys_k {W : World} {o : Option Int} {e : Ending} {w' : World} (h : AtyS W o e w') : e = .returned (.tuple #[.agg #[.int .i64 (tyOut o).1.kind, .int .i64 (tyOut o).1.scale], .bool (tyOut o).2]) ∧ Below W.heap.size W w' := by
  cases o <;> exact h
set_option maxRecDepth 100000 in
set_option maxHeartbeats 2000000 in
theorem types_core (op : UInt8) (ka sa kb sb : Int) (nu vn : Bool) (n : Int) (S : ByteArray) (fr tt : Int) (x0 x1 : Int) (xb : Bool) (v e1 : Int) (b1 b2 : Bool) (w : World) (hE : VEnv w)
    (k1 : AtyK 11 (.int .u8 (op.toNat : Int)) ka sa kb sb x0 x1 xb) (k2 : AtyK 12 (.int .u8 (op.toNat : Int)) ka sa kb sb x0 x1 xb)
    (hn : I64 n) (hs : scaleP n fr tt = (v, e1)) (h1 : tyB ⟨ka, sa⟩ = b1) (h2 : fitsB ⟨ka, sa⟩ nu ⟨vn, n, S⟩ = b2) :
    Calls Tryd.prog 3 #[.agg #[.int .i64 ka, .int .i64 sa], .agg #[.int .i64 kb, .int .i64 sb], .bool nu, .agg #[.bool vn, .int .i64 n, .string S], .int .u8 (op.toNat : Int), .int .i64 fr, .int .i64 tt] w (BoolS w true) := by
  have HE := Lib.hid hE
  have K1 := Lib.hid k1
  have K2 := Lib.hid k2
  have H1 := Lib.hid h1
  have H2 := Lib.hid h2
  have HS := Lib.hid hs
  clear hE k1 k2 h1 h2 hs
  have B0 : Below w.heap.size w (((w.alloc (.cells #[.int .i64 ka, .int .i64 sa] 23)).alloc (.cells #[.int .i64 kb, .int .i64 sb] 23)).alloc (.cells #[.bool vn, .int .i64 n, .string S] 25)) := ((below2 w _ _).alloc (by simp; omega) _)
  go_enter Tryd.func3, Tryd.ntmps3
  go_wp2_with fail
  refine (examples10 _ (HE.out.later B0)).mono ?_
  rintro e w1 ⟨rfl, c1⟩
  have C1 := Lib.hid (B0.trans (c1.mono B0.size))
  have q0 : w1.cell? ⟨w.heap.size, 0, none⟩ = some (.int .i64 ka) := cell_later c1 (three0 _ _ _ _ _ _ _ _)
  have q1 : w1.cell? ⟨w.heap.size, 1, none⟩ = some (.int .i64 sa) := cell_later c1 (three0 _ _ _ _ _ _ _ _)
  have q2 : w1.cell? ⟨w.heap.size + 1, 0, none⟩ = some (.int .i64 kb) := cell_later c1 (three1 _ _ _ _ _ _ _ _)
  have q3 : w1.cell? ⟨w.heap.size + 1, 1, none⟩ = some (.int .i64 sb) := cell_later c1 (three1 _ _ _ _ _ _ _ _)
  have q4 : w1.cell? ⟨w.heap.size + 1 + 1, 0, none⟩ = some (.bool vn) := cell_later c1 (three2 _ _ _ _ _ _ _ _)
  have q5 : w1.cell? ⟨w.heap.size + 1 + 1, 1, none⟩ = some (.int .i64 n) := cell_later c1 (three2 _ _ _ _ _ _ _ _)
  have q6 : w1.cell? ⟨w.heap.size + 1 + 1, 2, none⟩ = some (.string S) := cell_later c1 (three2 _ _ _ _ _ _ _ _)
  clear c1 B0
  go_wp2_with fail
  refine (K1.out _).mono ?_
  rintro e w2 ⟨rfl, c2⟩
  have C2 := Lib.hid ((C1.out.trans (c2.mono C1.out.size)).alloc (Nat.le_trans C1.out.size c2.size) (.cells #[.int .i64 x0, .int .i64 x1] 23))
  have u0 := cell_later c2 q0
  have u1 := cell_later c2 q1
  have u2 := cell_later c2 q2
  have u3 := cell_later c2 q3
  have u4 := cell_later c2 q4
  have u5 := cell_later c2 q5
  have u6 := cell_later c2 q6
  clear c2 q0 q1 q2 q3 q4 q5 q6
  have hl0 : w.heap.size < w2.heap.size := World.block_lt_of_cell? _ _ u0
  have hl1 : w.heap.size + 1 < w2.heap.size := World.block_lt_of_cell? _ _ u2
  have hl2 : w.heap.size + 1 + 1 < w2.heap.size := World.block_lt_of_cell? _ _ u4
  go_wp2_with fail
  refine (K2.out _).mono ?_
  rintro e w3 ⟨rfl, c3⟩
  have C3 := Lib.hid ((C2.out.trans (c3.mono C2.out.size)).alloc (Nat.le_trans C2.out.size c3.size) (.cells #[.int .i64 x0, .int .i64 x1] 23))
  have v0 : w3.cell? ⟨w.heap.size, 0, none⟩ = some (.int .i64 ka) := cell_later c3 ((World.cell?_alloc_past _ _ _ hl0).trans u0)
  have v1 : w3.cell? ⟨w.heap.size, 1, none⟩ = some (.int .i64 sa) := cell_later c3 ((World.cell?_alloc_past _ _ _ hl0).trans u1)
  have v4 : w3.cell? ⟨w.heap.size + 1 + 1, 0, none⟩ = some (.bool vn) := cell_later c3 ((World.cell?_alloc_past _ _ _ hl2).trans u4)
  have v5 : w3.cell? ⟨w.heap.size + 1 + 1, 1, none⟩ = some (.int .i64 n) := cell_later c3 ((World.cell?_alloc_past _ _ _ hl2).trans u5)
  have v6 : w3.cell? ⟨w.heap.size + 1 + 1, 2, none⟩ = some (.string S) := cell_later c3 ((World.cell?_alloc_past _ _ _ hl2).trans u6)
  have v7 : w3.cell? ⟨w2.heap.size, 0, none⟩ = some (.int .i64 x0) := cell_later c3 (World.cell?_alloc_at _ _ _ _ rfl)
  have v8 : w3.cell? ⟨w2.heap.size, 1, none⟩ = some (.int .i64 x1) := cell_later c3 (World.cell?_alloc_at _ _ _ _ rfl)
  clear c3 u0 u1 u2 u3 u4 u5 u6 hl0 hl1 hl2
  have hl0 : w.heap.size < w3.heap.size := World.block_lt_of_cell? _ _ v0
  have hl2 : w.heap.size + 1 + 1 < w3.heap.size := World.block_lt_of_cell? _ _ v4
  have hl3 : w2.heap.size < w3.heap.size := World.block_lt_of_cell? _ _ v7
  have HX := Lib.hid (show HeldT w w2.heap.size w3.heap.size ka sa vn n S x0 x1 (w3.alloc (.cells #[.int .i64 x0, .int .i64 x1] 23)) from
    ⟨(World.cell?_alloc_past _ _ _ hl0).trans v0, (World.cell?_alloc_past _ _ _ hl0).trans v1, (World.cell?_alloc_past _ _ _ hl2).trans v4, (World.cell?_alloc_past _ _ _ hl2).trans v5, (World.cell?_alloc_past _ _ _ hl2).trans v6,
      (World.cell?_alloc_past _ _ _ hl3).trans v7, (World.cell?_alloc_past _ _ _ hl3).trans v8, World.cell?_alloc_at _ _ _ _ rfl, World.cell?_alloc_at _ _ _ _ rfl, C3.out⟩)
  go_wp2_with fail
  refine (scale_any _ _ _ hn _ _ _ HS.out).mono ?_
  rintro e w4 ⟨rfl, c4⟩
  have HY := Lib.hid (heldT_later c4 HX.out)
  have v5' : w4.cell? ⟨w.heap.size + 1 + 1, 1, none⟩ = some (.int .i64 n) := HY.out.2.2.2.1
  clear c4 v0 v1 v4 v5 v6 v7 v8
  go_wp2_with fail
  refine (rscale_any _ _ _ hn _ _ _ HS.out).mono ?_
  rintro e w5 ⟨rfl, rfl⟩
  go_wp2_with fail
  clear v5'
  have HZ := Lib.hid (show HeldT w w2.heap.size w3.heap.size ka sa vn n S x0 x1 w4.drew from by obtain ⟨y0, y1, y2, y3, y4, y5, y6, y7, y8, y9⟩ := HY.out; exact ⟨y0, y1, y2, y3, y4, y5, y6, y7, y8, y9.drew⟩)
  go_region_held3 (fun W => HeldT w w2.heap.size w3.heap.size ka sa vn n S x0 x1 W) (first | exact k2 (by assumption) | exact HZ.out)
    (first
      | (go_at_call 15; refine (ty_any _ _ _ _ H1.out).mono ?_; rintro e W2 ⟨rfl, c2⟩; have k2 := fun h => heldT_later (w := w) (p := w2.heap.size) (q := w3.heap.size) (k := ka) (s := sa) (vn := vn) (n := n) (S := S) (x0 := x0) (x1 := x1) c2 h)
      | (go_at_call 16; refine (rty_any _ _ _ _ H1.out).mono ?_; rintro e W2 ⟨rfl, c2⟩; have k2 := fun h => heldT_later (w := w) (p := w2.heap.size) (q := w3.heap.size) (k := ka) (s := sa) (vn := vn) (n := n) (S := S) (x0 := x0) (x1 := x1) c2 h)
      | (go_at_call 17; refine (fits_any _ _ _ _ _ _ _ _ H2.out).mono ?_; rintro e W2 ⟨rfl, c2⟩; have k2 := fun h => heldT_later (w := w) (p := w2.heap.size) (q := w3.heap.size) (k := ka) (s := sa) (vn := vn) (n := n) (S := S) (x0 := x0) (x1 := x1) c2 h)
      | (go_at_call 18; refine (rfits_any _ _ _ _ _ _ _ _ H2.out).mono ?_; rintro e W2 ⟨rfl, c2⟩; have k2 := fun h => heldT_later (w := w) (p := w2.heap.size) (q := w3.heap.size) (k := ka) (s := sa) (vn := vn) (n := n) (S := S) (x0 := x0) (x1 := x1) c2 h))
  all_goals
    go_wp2_with fail
    go_ret
    exact ⟨by simp, (‹HeldT w w2.heap.size w3.heap.size ka sa vn n S x0 x1 _›).2.2.2.2.2.2.2.2.2⟩
theorem types_walk (op : UInt8) (ka sa kb sb : Int) (nu vn : Bool) (n : Int) (S : ByteArray) (fr tt : Int) (w : World) (hE : VEnv w) (hn : I64 n) :
    Calls Tryd.prog 3 #[.agg #[.int .i64 ka, .int .i64 sa], .agg #[.int .i64 kb, .int .i64 sb], .bool nu, .agg #[.bool vn, .int .i64 n, .string S], .int .u8 (op.toNat : Int), .int .i64 fr, .int .i64 tt] w (BoolS w true) :=
  types_core op ka sa kb sb nu vn n S fr tt _ _ _ _ _ _ _ w hE (fun W => (aty_any op ka sa kb sb W _ rfl).mono fun _ _ h => atys_k h) (fun W => (raty_any op ka sa kb sb W _ rfl).mono fun _ _ h => atys_k h) hn rfl rfl rfl
end Go.Proofs.YtafnjkeljjeamaaDoor.Val
