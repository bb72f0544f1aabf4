/-
  The law of order: the walk. No condition beyond what each theorem names.
-/
import Derived.Test.YtafnjkeljjeamaaDoorValOrdF
import Derived.Test.YtafnjkeljjeamaaDoorValO
namespace Go.Proofs.YtafnjkeljjeamaaDoor.Val
open Go.RowKit Go.Maps Go.Lib
set_option linter.unusedVariables false
set_option linter.unusedSimpArgs false
def FiK (t : Bool) (a : Value) (b : Bool) (n : Int) (S : ByteArray) : Prop := ∀ (B : Nat) (W : World), W.cell? ⟨B, 0, none⟩ = some (.bool t) → Calls Tryd.prog 26 #[a, .pointer (some ⟨B, 0, none⟩)] W fun e w' => e = .returned (.agg #[.bool b, .int .i64 n, .string S]) ∧ Below W.heap.size W w'
def OdK (x y t : Value) (c : Int) : Prop := ∀ W, Calls Tryd.prog 27 #[x, y, t] W fun e w' => e = .returned (.int .i64 c) ∧ Below W.heap.size W w'
abbrev HeldO (w : World) (p q r : Nat) (xb : Bool) (xn : Int) (xS : ByteArray) (yb : Bool) (yn : Int) (yS : ByteArray) (k s : Int) (W : World) : Prop :=
  W.cell? ⟨p, 0, none⟩ = some (.bool xb) ∧ W.cell? ⟨p, 1, none⟩ = some (.int .i64 xn) ∧ W.cell? ⟨p, 2, none⟩ = some (.string xS)
  ∧ W.cell? ⟨q, 0, none⟩ = some (.bool yb) ∧ W.cell? ⟨q, 1, none⟩ = some (.int .i64 yn) ∧ W.cell? ⟨q, 2, none⟩ = some (.string yS)
  ∧ W.cell? ⟨r, 0, none⟩ = some (.int .i64 k) ∧ W.cell? ⟨r, 1, none⟩ = some (.int .i64 s) ∧ Below w.heap.size w W
theorem heldO_later {w : World} {p q r : Nat} {xb : Bool} {xn : Int} {xS : ByteArray} {yb : Bool} {yn : Int} {yS : ByteArray} {k s : Int} {W W' : World} (c : Below W.heap.size W W') (h : HeldO w p q r xb xn xS yb yn yS k s W) : HeldO w p q r xb xn xS yb yn yS k s W' := by
  obtain ⟨h0, h1, h2, h3, h4, h5, h6, h7, h8⟩ := h
  exact ⟨cell_later c h0, cell_later c h1, cell_later c h2, cell_later c h3, cell_later c h4, cell_later c h5, cell_later c h6, cell_later c h7, h8.trans (c.mono h8.size)⟩
/-- how two values stand to one another, told by what of them is unlike -/
def OrdP (cyz cxz : Int) : Prop := decide (0 < cyz) = true ∨ (decide (0 < cyz) = false ∧ decide (cxz ≤ 0) = true)
def OrdH (xb yb : Bool) (xn yn : Int) (xS yS : ByteArray) (cxy cyz cxz : Int) : Prop :=
  (cxy = 0 ∧ yb = xb ∧ yn = xn ∧ yS = xS ∧ (xb = true ∨ xb = false) ∧ OrdP cyz cxz)
  ∨ (cxy = -1 ∧ xb = true ∧ yb = false ∧ OrdP cyz cxz)
  ∨ (cxy = 1 ∧ xb = false ∧ yb = true)
  ∨ (cxy = -1 ∧ xb = false ∧ yb = false ∧ (xn == yn) = false ∧ OrdP cyz cxz)
  ∨ (cxy = 1 ∧ xb = false ∧ yb = false ∧ (xn == yn) = false)
  ∨ (cxy = -1 ∧ xb = false ∧ yb = false ∧ yn = xn ∧ (xS.toList == yS.toList) = false ∧ OrdP cyz cxz)
  ∨ (cxy = 1 ∧ xb = false ∧ yb = false ∧ yn = xn ∧ (xS.toList == yS.toList) = false)
theorem below0 (w : World) : Below w.heap.size w w := ⟨rfl, rfl, rfl, Nat.le_refl _, fun _ _ => rfl⟩
set_option maxRecDepth 100000 in
set_option maxHeartbeats 8000000 in
theorem orders_true (ab bb cb xb yb zb : Bool) (an bn cn xn yn zn kt st cxy cyz cxz cyx : Int) (aS bS cS xS yS zS : ByteArray) (sc : UInt8) (n1 : NumK sc kt st)
    (f1 : FiK true (.agg #[.bool ab, .int .i64 an, .string aS]) xb xn xS) (f2 : FiK true (.agg #[.bool bb, .int .i64 bn, .string bS]) yb yn yS) (f3 : FiK true (.agg #[.bool cb, .int .i64 cn, .string cS]) zb zn zS)
    (o1 : OdK (.agg #[.bool xb, .int .i64 xn, .string xS]) (.agg #[.bool yb, .int .i64 yn, .string yS]) (.agg #[.int .i64 3, .int .i64 0]) cxy) (o2 : OdK (.agg #[.bool yb, .int .i64 yn, .string yS]) (.agg #[.bool zb, .int .i64 zn, .string zS]) (.agg #[.int .i64 3, .int .i64 0]) cyz) (o3 : OdK (.agg #[.bool xb, .int .i64 xn, .string xS]) (.agg #[.bool zb, .int .i64 zn, .string zS]) (.agg #[.int .i64 3, .int .i64 0]) cxz) (o4 : OdK (.agg #[.bool yb, .int .i64 yn, .string yS]) (.agg #[.bool xb, .int .i64 xn, .string xS]) (.agg #[.int .i64 3, .int .i64 0]) cyx) (o5 : OdK (.agg #[.bool xb, .int .i64 xn, .string xS]) (.agg #[.bool xb, .int .i64 xn, .string xS]) (.agg #[.int .i64 3, .int .i64 0]) 0)
    (hw : wrap64 (-cyx) = cxy) (hp : OrdH xb yb xn yn xS yS cxy cyz cxz)
    (w : World) (hE : VEnv w) : Calls Tryd.prog 9 #[.agg #[.bool ab, .int .i64 an, .string aS], .agg #[.bool bb, .int .i64 bn, .string bS], .agg #[.bool cb, .int .i64 cn, .string cS], .int .u8 (sc.toNat : Int), .bool true] w (BoolS w true) := by
  have HE := Lib.hid hE
  have N1 := Lib.hid n1
  have F1 := Lib.hid f1
  have F2 := Lib.hid f2
  have F3 := Lib.hid f3
  have O1 := Lib.hid o1
  have O2 := Lib.hid o2
  have O3 := Lib.hid o3
  have O4 := Lib.hid o4
  have O5 := Lib.hid o5
  have HP := Lib.hid hp
  clear hE n1 f1 f2 f3 o1 o2 o3 o4 o5 hp
  have C := Lib.hid (below0 w)
  have qa_0 : (w.alloc (.cells #[.bool ab, .int .i64 an, .string aS] 25)).cell? ⟨w.heap.size, 0, none⟩ = some (.bool ab) := World.cell?_alloc_at _ _ _ _ (rfl)
  have qa_1 : (w.alloc (.cells #[.bool ab, .int .i64 an, .string aS] 25)).cell? ⟨w.heap.size, 1, none⟩ = some (.int .i64 an) := World.cell?_alloc_at _ _ _ _ (rfl)
  have qa_2 : (w.alloc (.cells #[.bool ab, .int .i64 an, .string aS] 25)).cell? ⟨w.heap.size, 2, none⟩ = some (.string aS) := World.cell?_alloc_at _ _ _ _ (rfl)
  replace C := Lib.hid (ba C.out (.cells #[.bool ab, .int .i64 an, .string aS] 25))
  replace qa_0 : ((w.alloc (.cells #[.bool ab, .int .i64 an, .string aS] 25)).alloc (.cells #[.bool bb, .int .i64 bn, .string bS] 25)).cell? ⟨w.heap.size, 0, none⟩ = some (.bool ab) := past1 _ qa_0
  replace qa_1 : ((w.alloc (.cells #[.bool ab, .int .i64 an, .string aS] 25)).alloc (.cells #[.bool bb, .int .i64 bn, .string bS] 25)).cell? ⟨w.heap.size, 1, none⟩ = some (.int .i64 an) := past1 _ qa_1
  replace qa_2 : ((w.alloc (.cells #[.bool ab, .int .i64 an, .string aS] 25)).alloc (.cells #[.bool bb, .int .i64 bn, .string bS] 25)).cell? ⟨w.heap.size, 2, none⟩ = some (.string aS) := past1 _ qa_2
  have qb_0 : ((w.alloc (.cells #[.bool ab, .int .i64 an, .string aS] 25)).alloc (.cells #[.bool bb, .int .i64 bn, .string bS] 25)).cell? ⟨w.heap.size + 1, 0, none⟩ = some (.bool bb) := World.cell?_alloc_at _ _ _ _ (by simp)
  have qb_1 : ((w.alloc (.cells #[.bool ab, .int .i64 an, .string aS] 25)).alloc (.cells #[.bool bb, .int .i64 bn, .string bS] 25)).cell? ⟨w.heap.size + 1, 1, none⟩ = some (.int .i64 bn) := World.cell?_alloc_at _ _ _ _ (by simp)
  have qb_2 : ((w.alloc (.cells #[.bool ab, .int .i64 an, .string aS] 25)).alloc (.cells #[.bool bb, .int .i64 bn, .string bS] 25)).cell? ⟨w.heap.size + 1, 2, none⟩ = some (.string bS) := World.cell?_alloc_at _ _ _ _ (by simp)
  replace C := Lib.hid (ba C.out (.cells #[.bool bb, .int .i64 bn, .string bS] 25))
  replace qa_0 : (((w.alloc (.cells #[.bool ab, .int .i64 an, .string aS] 25)).alloc (.cells #[.bool bb, .int .i64 bn, .string bS] 25)).alloc (.cells #[.bool cb, .int .i64 cn, .string cS] 25)).cell? ⟨w.heap.size, 0, none⟩ = some (.bool ab) := past1 _ qa_0
  replace qa_1 : (((w.alloc (.cells #[.bool ab, .int .i64 an, .string aS] 25)).alloc (.cells #[.bool bb, .int .i64 bn, .string bS] 25)).alloc (.cells #[.bool cb, .int .i64 cn, .string cS] 25)).cell? ⟨w.heap.size, 1, none⟩ = some (.int .i64 an) := past1 _ qa_1
  replace qa_2 : (((w.alloc (.cells #[.bool ab, .int .i64 an, .string aS] 25)).alloc (.cells #[.bool bb, .int .i64 bn, .string bS] 25)).alloc (.cells #[.bool cb, .int .i64 cn, .string cS] 25)).cell? ⟨w.heap.size, 2, none⟩ = some (.string aS) := past1 _ qa_2
  replace qb_0 : (((w.alloc (.cells #[.bool ab, .int .i64 an, .string aS] 25)).alloc (.cells #[.bool bb, .int .i64 bn, .string bS] 25)).alloc (.cells #[.bool cb, .int .i64 cn, .string cS] 25)).cell? ⟨w.heap.size + 1, 0, none⟩ = some (.bool bb) := past1 _ qb_0
  replace qb_1 : (((w.alloc (.cells #[.bool ab, .int .i64 an, .string aS] 25)).alloc (.cells #[.bool bb, .int .i64 bn, .string bS] 25)).alloc (.cells #[.bool cb, .int .i64 cn, .string cS] 25)).cell? ⟨w.heap.size + 1, 1, none⟩ = some (.int .i64 bn) := past1 _ qb_1
  replace qb_2 : (((w.alloc (.cells #[.bool ab, .int .i64 an, .string aS] 25)).alloc (.cells #[.bool bb, .int .i64 bn, .string bS] 25)).alloc (.cells #[.bool cb, .int .i64 cn, .string cS] 25)).cell? ⟨w.heap.size + 1, 2, none⟩ = some (.string bS) := past1 _ qb_2
  have qc_0 : (((w.alloc (.cells #[.bool ab, .int .i64 an, .string aS] 25)).alloc (.cells #[.bool bb, .int .i64 bn, .string bS] 25)).alloc (.cells #[.bool cb, .int .i64 cn, .string cS] 25)).cell? ⟨w.heap.size + 1 + 1, 0, none⟩ = some (.bool cb) := World.cell?_alloc_at _ _ _ _ (by simp)
  have qc_1 : (((w.alloc (.cells #[.bool ab, .int .i64 an, .string aS] 25)).alloc (.cells #[.bool bb, .int .i64 bn, .string bS] 25)).alloc (.cells #[.bool cb, .int .i64 cn, .string cS] 25)).cell? ⟨w.heap.size + 1 + 1, 1, none⟩ = some (.int .i64 cn) := World.cell?_alloc_at _ _ _ _ (by simp)
  have qc_2 : (((w.alloc (.cells #[.bool ab, .int .i64 an, .string aS] 25)).alloc (.cells #[.bool bb, .int .i64 bn, .string bS] 25)).alloc (.cells #[.bool cb, .int .i64 cn, .string cS] 25)).cell? ⟨w.heap.size + 1 + 1, 2, none⟩ = some (.string cS) := World.cell?_alloc_at _ _ _ _ (by simp)
  replace C := Lib.hid (ba C.out (.cells #[.bool cb, .int .i64 cn, .string cS] 25))
  replace qa_0 : ((((w.alloc (.cells #[.bool ab, .int .i64 an, .string aS] 25)).alloc (.cells #[.bool bb, .int .i64 bn, .string bS] 25)).alloc (.cells #[.bool cb, .int .i64 cn, .string cS] 25)).alloc (.cells #[.bool true] 4)).cell? ⟨w.heap.size, 0, none⟩ = some (.bool ab) := past1 _ qa_0
  replace qa_1 : ((((w.alloc (.cells #[.bool ab, .int .i64 an, .string aS] 25)).alloc (.cells #[.bool bb, .int .i64 bn, .string bS] 25)).alloc (.cells #[.bool cb, .int .i64 cn, .string cS] 25)).alloc (.cells #[.bool true] 4)).cell? ⟨w.heap.size, 1, none⟩ = some (.int .i64 an) := past1 _ qa_1
  replace qa_2 : ((((w.alloc (.cells #[.bool ab, .int .i64 an, .string aS] 25)).alloc (.cells #[.bool bb, .int .i64 bn, .string bS] 25)).alloc (.cells #[.bool cb, .int .i64 cn, .string cS] 25)).alloc (.cells #[.bool true] 4)).cell? ⟨w.heap.size, 2, none⟩ = some (.string aS) := past1 _ qa_2
  replace qb_0 : ((((w.alloc (.cells #[.bool ab, .int .i64 an, .string aS] 25)).alloc (.cells #[.bool bb, .int .i64 bn, .string bS] 25)).alloc (.cells #[.bool cb, .int .i64 cn, .string cS] 25)).alloc (.cells #[.bool true] 4)).cell? ⟨w.heap.size + 1, 0, none⟩ = some (.bool bb) := past1 _ qb_0
  replace qb_1 : ((((w.alloc (.cells #[.bool ab, .int .i64 an, .string aS] 25)).alloc (.cells #[.bool bb, .int .i64 bn, .string bS] 25)).alloc (.cells #[.bool cb, .int .i64 cn, .string cS] 25)).alloc (.cells #[.bool true] 4)).cell? ⟨w.heap.size + 1, 1, none⟩ = some (.int .i64 bn) := past1 _ qb_1
  replace qb_2 : ((((w.alloc (.cells #[.bool ab, .int .i64 an, .string aS] 25)).alloc (.cells #[.bool bb, .int .i64 bn, .string bS] 25)).alloc (.cells #[.bool cb, .int .i64 cn, .string cS] 25)).alloc (.cells #[.bool true] 4)).cell? ⟨w.heap.size + 1, 2, none⟩ = some (.string bS) := past1 _ qb_2
  replace qc_0 : ((((w.alloc (.cells #[.bool ab, .int .i64 an, .string aS] 25)).alloc (.cells #[.bool bb, .int .i64 bn, .string bS] 25)).alloc (.cells #[.bool cb, .int .i64 cn, .string cS] 25)).alloc (.cells #[.bool true] 4)).cell? ⟨w.heap.size + 1 + 1, 0, none⟩ = some (.bool cb) := past1 _ qc_0
  replace qc_1 : ((((w.alloc (.cells #[.bool ab, .int .i64 an, .string aS] 25)).alloc (.cells #[.bool bb, .int .i64 bn, .string bS] 25)).alloc (.cells #[.bool cb, .int .i64 cn, .string cS] 25)).alloc (.cells #[.bool true] 4)).cell? ⟨w.heap.size + 1 + 1, 1, none⟩ = some (.int .i64 cn) := past1 _ qc_1
  replace qc_2 : ((((w.alloc (.cells #[.bool ab, .int .i64 an, .string aS] 25)).alloc (.cells #[.bool bb, .int .i64 bn, .string bS] 25)).alloc (.cells #[.bool cb, .int .i64 cn, .string cS] 25)).alloc (.cells #[.bool true] 4)).cell? ⟨w.heap.size + 1 + 1, 2, none⟩ = some (.string cS) := past1 _ qc_2
  have qt_0 : ((((w.alloc (.cells #[.bool ab, .int .i64 an, .string aS] 25)).alloc (.cells #[.bool bb, .int .i64 bn, .string bS] 25)).alloc (.cells #[.bool cb, .int .i64 cn, .string cS] 25)).alloc (.cells #[.bool true] 4)).cell? ⟨w.heap.size + 1 + 1 + 1, 0, none⟩ = some (.bool true) := World.cell?_alloc_at _ _ _ _ (by simp)
  replace C := Lib.hid (ba C.out (.cells #[.bool true] 4))
  go_enter Tryd.func9, Tryd.ntmps9
  go_wp2_with fail
  refine (examples10 _ (HE.out.later C.out)).mono ?_
  rintro e w1 ⟨rfl, c⟩
  replace qa_0 : w1.cell? ⟨w.heap.size, 0, none⟩ = some (.bool ab) := cell_later c qa_0
  replace qa_1 : w1.cell? ⟨w.heap.size, 1, none⟩ = some (.int .i64 an) := cell_later c qa_1
  replace qa_2 : w1.cell? ⟨w.heap.size, 2, none⟩ = some (.string aS) := cell_later c qa_2
  replace qb_0 : w1.cell? ⟨w.heap.size + 1, 0, none⟩ = some (.bool bb) := cell_later c qb_0
  replace qb_1 : w1.cell? ⟨w.heap.size + 1, 1, none⟩ = some (.int .i64 bn) := cell_later c qb_1
  replace qb_2 : w1.cell? ⟨w.heap.size + 1, 2, none⟩ = some (.string bS) := cell_later c qb_2
  replace qc_0 : w1.cell? ⟨w.heap.size + 1 + 1, 0, none⟩ = some (.bool cb) := cell_later c qc_0
  replace qc_1 : w1.cell? ⟨w.heap.size + 1 + 1, 1, none⟩ = some (.int .i64 cn) := cell_later c qc_1
  replace qc_2 : w1.cell? ⟨w.heap.size + 1 + 1, 2, none⟩ = some (.string cS) := cell_later c qc_2
  replace qt_0 : w1.cell? ⟨w.heap.size + 1 + 1 + 1, 0, none⟩ = some (.bool true) := cell_later c qt_0
  have la : w.heap.size < w1.heap.size := World.block_lt_of_cell? _ _ qa_0
  have lb : w.heap.size + 1 < w1.heap.size := World.block_lt_of_cell? _ _ qb_0
  have lc : w.heap.size + 1 + 1 < w1.heap.size := World.block_lt_of_cell? _ _ qc_0
  have lt : w.heap.size + 1 + 1 + 1 < w1.heap.size := World.block_lt_of_cell? _ _ qt_0
  replace C := Lib.hid (bj C.out c)
  clear c
  go_wp2_with fail
  refine (N1.out _).mono ?_
  rintro e w2 ⟨rfl, c⟩
  replace qa_0 : w2.cell? ⟨w.heap.size, 0, none⟩ = some (.bool ab) := cell_later c qa_0
  replace qa_1 : w2.cell? ⟨w.heap.size, 1, none⟩ = some (.int .i64 an) := cell_later c qa_1
  replace qa_2 : w2.cell? ⟨w.heap.size, 2, none⟩ = some (.string aS) := cell_later c qa_2
  replace qb_0 : w2.cell? ⟨w.heap.size + 1, 0, none⟩ = some (.bool bb) := cell_later c qb_0
  replace qb_1 : w2.cell? ⟨w.heap.size + 1, 1, none⟩ = some (.int .i64 bn) := cell_later c qb_1
  replace qb_2 : w2.cell? ⟨w.heap.size + 1, 2, none⟩ = some (.string bS) := cell_later c qb_2
  replace qc_0 : w2.cell? ⟨w.heap.size + 1 + 1, 0, none⟩ = some (.bool cb) := cell_later c qc_0
  replace qc_1 : w2.cell? ⟨w.heap.size + 1 + 1, 1, none⟩ = some (.int .i64 cn) := cell_later c qc_1
  replace qc_2 : w2.cell? ⟨w.heap.size + 1 + 1, 2, none⟩ = some (.string cS) := cell_later c qc_2
  replace qt_0 : w2.cell? ⟨w.heap.size + 1 + 1 + 1, 0, none⟩ = some (.bool true) := cell_later c qt_0
  clear la
  have la : w.heap.size < w2.heap.size := World.block_lt_of_cell? _ _ qa_0
  clear lb
  have lb : w.heap.size + 1 < w2.heap.size := World.block_lt_of_cell? _ _ qb_0
  clear lc
  have lc : w.heap.size + 1 + 1 < w2.heap.size := World.block_lt_of_cell? _ _ qc_0
  clear lt
  have lt : w.heap.size + 1 + 1 + 1 < w2.heap.size := World.block_lt_of_cell? _ _ qt_0
  replace C := Lib.hid (bj C.out c)
  clear c
  have pa_0 : (w2.alloc (.cells #[.int .i64 kt, .int .i64 st] 23)).cell? ⟨w.heap.size, 0, none⟩ = some (.bool ab) := past1 _ qa_0
  have pa_1 : (w2.alloc (.cells #[.int .i64 kt, .int .i64 st] 23)).cell? ⟨w.heap.size, 1, none⟩ = some (.int .i64 an) := past1 _ qa_1
  have pa_2 : (w2.alloc (.cells #[.int .i64 kt, .int .i64 st] 23)).cell? ⟨w.heap.size, 2, none⟩ = some (.string aS) := past1 _ qa_2
  have pb_0 : (w2.alloc (.cells #[.int .i64 kt, .int .i64 st] 23)).cell? ⟨w.heap.size + 1, 0, none⟩ = some (.bool bb) := past1 _ qb_0
  have pb_1 : (w2.alloc (.cells #[.int .i64 kt, .int .i64 st] 23)).cell? ⟨w.heap.size + 1, 1, none⟩ = some (.int .i64 bn) := past1 _ qb_1
  have pb_2 : (w2.alloc (.cells #[.int .i64 kt, .int .i64 st] 23)).cell? ⟨w.heap.size + 1, 2, none⟩ = some (.string bS) := past1 _ qb_2
  have pc_0 : (w2.alloc (.cells #[.int .i64 kt, .int .i64 st] 23)).cell? ⟨w.heap.size + 1 + 1, 0, none⟩ = some (.bool cb) := past1 _ qc_0
  have pc_1 : (w2.alloc (.cells #[.int .i64 kt, .int .i64 st] 23)).cell? ⟨w.heap.size + 1 + 1, 1, none⟩ = some (.int .i64 cn) := past1 _ qc_1
  have pc_2 : (w2.alloc (.cells #[.int .i64 kt, .int .i64 st] 23)).cell? ⟨w.heap.size + 1 + 1, 2, none⟩ = some (.string cS) := past1 _ qc_2
  have pt_0 : (w2.alloc (.cells #[.int .i64 kt, .int .i64 st] 23)).cell? ⟨w.heap.size + 1 + 1 + 1, 0, none⟩ = some (.bool true) := past1 _ qt_0
  replace qa_0 : (w2.alloc (.cells #[.int .i64 3, .int .i64 0] 23)).cell? ⟨w.heap.size, 0, none⟩ = some (.bool ab) := past1 _ qa_0
  replace qa_1 : (w2.alloc (.cells #[.int .i64 3, .int .i64 0] 23)).cell? ⟨w.heap.size, 1, none⟩ = some (.int .i64 an) := past1 _ qa_1
  replace qa_2 : (w2.alloc (.cells #[.int .i64 3, .int .i64 0] 23)).cell? ⟨w.heap.size, 2, none⟩ = some (.string aS) := past1 _ qa_2
  replace qb_0 : (w2.alloc (.cells #[.int .i64 3, .int .i64 0] 23)).cell? ⟨w.heap.size + 1, 0, none⟩ = some (.bool bb) := past1 _ qb_0
  replace qb_1 : (w2.alloc (.cells #[.int .i64 3, .int .i64 0] 23)).cell? ⟨w.heap.size + 1, 1, none⟩ = some (.int .i64 bn) := past1 _ qb_1
  replace qb_2 : (w2.alloc (.cells #[.int .i64 3, .int .i64 0] 23)).cell? ⟨w.heap.size + 1, 2, none⟩ = some (.string bS) := past1 _ qb_2
  replace qc_0 : (w2.alloc (.cells #[.int .i64 3, .int .i64 0] 23)).cell? ⟨w.heap.size + 1 + 1, 0, none⟩ = some (.bool cb) := past1 _ qc_0
  replace qc_1 : (w2.alloc (.cells #[.int .i64 3, .int .i64 0] 23)).cell? ⟨w.heap.size + 1 + 1, 1, none⟩ = some (.int .i64 cn) := past1 _ qc_1
  replace qc_2 : (w2.alloc (.cells #[.int .i64 3, .int .i64 0] 23)).cell? ⟨w.heap.size + 1 + 1, 2, none⟩ = some (.string cS) := past1 _ qc_2
  replace qt_0 : (w2.alloc (.cells #[.int .i64 3, .int .i64 0] 23)).cell? ⟨w.heap.size + 1 + 1 + 1, 0, none⟩ = some (.bool true) := past1 _ qt_0
  have qk_0 : (w2.alloc (.cells #[.int .i64 3, .int .i64 0] 23)).cell? ⟨w2.heap.size, 0, none⟩ = some (.int .i64 3) := World.cell?_alloc_at _ _ _ _ (rfl)
  have qk_1 : (w2.alloc (.cells #[.int .i64 3, .int .i64 0] 23)).cell? ⟨w2.heap.size, 1, none⟩ = some (.int .i64 0) := World.cell?_alloc_at _ _ _ _ (rfl)
  replace C := Lib.hid (ba C.out (.cells #[.int .i64 3, .int .i64 0] 23))
  go_wp2_with fail
  refine (F1.out _ _ qt_0).mono ?_
  rintro e w3 ⟨rfl, c⟩
  replace qa_0 : w3.cell? ⟨w.heap.size, 0, none⟩ = some (.bool ab) := cell_later c qa_0
  replace qa_1 : w3.cell? ⟨w.heap.size, 1, none⟩ = some (.int .i64 an) := cell_later c qa_1
  replace qa_2 : w3.cell? ⟨w.heap.size, 2, none⟩ = some (.string aS) := cell_later c qa_2
  replace qb_0 : w3.cell? ⟨w.heap.size + 1, 0, none⟩ = some (.bool bb) := cell_later c qb_0
  replace qb_1 : w3.cell? ⟨w.heap.size + 1, 1, none⟩ = some (.int .i64 bn) := cell_later c qb_1
  replace qb_2 : w3.cell? ⟨w.heap.size + 1, 2, none⟩ = some (.string bS) := cell_later c qb_2
  replace qc_0 : w3.cell? ⟨w.heap.size + 1 + 1, 0, none⟩ = some (.bool cb) := cell_later c qc_0
  replace qc_1 : w3.cell? ⟨w.heap.size + 1 + 1, 1, none⟩ = some (.int .i64 cn) := cell_later c qc_1
  replace qc_2 : w3.cell? ⟨w.heap.size + 1 + 1, 2, none⟩ = some (.string cS) := cell_later c qc_2
  replace qt_0 : w3.cell? ⟨w.heap.size + 1 + 1 + 1, 0, none⟩ = some (.bool true) := cell_later c qt_0
  replace qk_0 : w3.cell? ⟨w2.heap.size, 0, none⟩ = some (.int .i64 3) := cell_later c qk_0
  replace qk_1 : w3.cell? ⟨w2.heap.size, 1, none⟩ = some (.int .i64 0) := cell_later c qk_1
  clear la
  have la : w.heap.size < w3.heap.size := World.block_lt_of_cell? _ _ qa_0
  clear lb
  have lb : w.heap.size + 1 < w3.heap.size := World.block_lt_of_cell? _ _ qb_0
  clear lc
  have lc : w.heap.size + 1 + 1 < w3.heap.size := World.block_lt_of_cell? _ _ qc_0
  clear lt
  have lt : w.heap.size + 1 + 1 + 1 < w3.heap.size := World.block_lt_of_cell? _ _ qt_0
  have lk : w2.heap.size < w3.heap.size := World.block_lt_of_cell? _ _ qk_0
  replace C := Lib.hid (bj C.out c)
  clear c
  replace qa_0 : (w3.alloc (.cells #[.bool xb, .int .i64 xn, .string xS] 25)).cell? ⟨w.heap.size, 0, none⟩ = some (.bool ab) := past1 _ qa_0
  replace qa_1 : (w3.alloc (.cells #[.bool xb, .int .i64 xn, .string xS] 25)).cell? ⟨w.heap.size, 1, none⟩ = some (.int .i64 an) := past1 _ qa_1
  replace qa_2 : (w3.alloc (.cells #[.bool xb, .int .i64 xn, .string xS] 25)).cell? ⟨w.heap.size, 2, none⟩ = some (.string aS) := past1 _ qa_2
  replace qb_0 : (w3.alloc (.cells #[.bool xb, .int .i64 xn, .string xS] 25)).cell? ⟨w.heap.size + 1, 0, none⟩ = some (.bool bb) := past1 _ qb_0
  replace qb_1 : (w3.alloc (.cells #[.bool xb, .int .i64 xn, .string xS] 25)).cell? ⟨w.heap.size + 1, 1, none⟩ = some (.int .i64 bn) := past1 _ qb_1
  replace qb_2 : (w3.alloc (.cells #[.bool xb, .int .i64 xn, .string xS] 25)).cell? ⟨w.heap.size + 1, 2, none⟩ = some (.string bS) := past1 _ qb_2
  replace qc_0 : (w3.alloc (.cells #[.bool xb, .int .i64 xn, .string xS] 25)).cell? ⟨w.heap.size + 1 + 1, 0, none⟩ = some (.bool cb) := past1 _ qc_0
  replace qc_1 : (w3.alloc (.cells #[.bool xb, .int .i64 xn, .string xS] 25)).cell? ⟨w.heap.size + 1 + 1, 1, none⟩ = some (.int .i64 cn) := past1 _ qc_1
  replace qc_2 : (w3.alloc (.cells #[.bool xb, .int .i64 xn, .string xS] 25)).cell? ⟨w.heap.size + 1 + 1, 2, none⟩ = some (.string cS) := past1 _ qc_2
  replace qt_0 : (w3.alloc (.cells #[.bool xb, .int .i64 xn, .string xS] 25)).cell? ⟨w.heap.size + 1 + 1 + 1, 0, none⟩ = some (.bool true) := past1 _ qt_0
  replace qk_0 : (w3.alloc (.cells #[.bool xb, .int .i64 xn, .string xS] 25)).cell? ⟨w2.heap.size, 0, none⟩ = some (.int .i64 3) := past1 _ qk_0
  replace qk_1 : (w3.alloc (.cells #[.bool xb, .int .i64 xn, .string xS] 25)).cell? ⟨w2.heap.size, 1, none⟩ = some (.int .i64 0) := past1 _ qk_1
  have qx_0 : (w3.alloc (.cells #[.bool xb, .int .i64 xn, .string xS] 25)).cell? ⟨w3.heap.size, 0, none⟩ = some (.bool xb) := World.cell?_alloc_at _ _ _ _ (rfl)
  have qx_1 : (w3.alloc (.cells #[.bool xb, .int .i64 xn, .string xS] 25)).cell? ⟨w3.heap.size, 1, none⟩ = some (.int .i64 xn) := World.cell?_alloc_at _ _ _ _ (rfl)
  have qx_2 : (w3.alloc (.cells #[.bool xb, .int .i64 xn, .string xS] 25)).cell? ⟨w3.heap.size, 2, none⟩ = some (.string xS) := World.cell?_alloc_at _ _ _ _ (rfl)
  replace C := Lib.hid (ba C.out (.cells #[.bool xb, .int .i64 xn, .string xS] 25))
  go_wp2_with fail
  refine (F2.out _ _ qt_0).mono ?_
  rintro e w4 ⟨rfl, c⟩
  replace qa_0 : w4.cell? ⟨w.heap.size, 0, none⟩ = some (.bool ab) := cell_later c qa_0
  replace qa_1 : w4.cell? ⟨w.heap.size, 1, none⟩ = some (.int .i64 an) := cell_later c qa_1
  replace qa_2 : w4.cell? ⟨w.heap.size, 2, none⟩ = some (.string aS) := cell_later c qa_2
  replace qb_0 : w4.cell? ⟨w.heap.size + 1, 0, none⟩ = some (.bool bb) := cell_later c qb_0
  replace qb_1 : w4.cell? ⟨w.heap.size + 1, 1, none⟩ = some (.int .i64 bn) := cell_later c qb_1
  replace qb_2 : w4.cell? ⟨w.heap.size + 1, 2, none⟩ = some (.string bS) := cell_later c qb_2
  replace qc_0 : w4.cell? ⟨w.heap.size + 1 + 1, 0, none⟩ = some (.bool cb) := cell_later c qc_0
  replace qc_1 : w4.cell? ⟨w.heap.size + 1 + 1, 1, none⟩ = some (.int .i64 cn) := cell_later c qc_1
  replace qc_2 : w4.cell? ⟨w.heap.size + 1 + 1, 2, none⟩ = some (.string cS) := cell_later c qc_2
  replace qt_0 : w4.cell? ⟨w.heap.size + 1 + 1 + 1, 0, none⟩ = some (.bool true) := cell_later c qt_0
  replace qk_0 : w4.cell? ⟨w2.heap.size, 0, none⟩ = some (.int .i64 3) := cell_later c qk_0
  replace qk_1 : w4.cell? ⟨w2.heap.size, 1, none⟩ = some (.int .i64 0) := cell_later c qk_1
  replace qx_0 : w4.cell? ⟨w3.heap.size, 0, none⟩ = some (.bool xb) := cell_later c qx_0
  replace qx_1 : w4.cell? ⟨w3.heap.size, 1, none⟩ = some (.int .i64 xn) := cell_later c qx_1
  replace qx_2 : w4.cell? ⟨w3.heap.size, 2, none⟩ = some (.string xS) := cell_later c qx_2
  clear la
  have la : w.heap.size < w4.heap.size := World.block_lt_of_cell? _ _ qa_0
  clear lb
  have lb : w.heap.size + 1 < w4.heap.size := World.block_lt_of_cell? _ _ qb_0
  clear lc
  have lc : w.heap.size + 1 + 1 < w4.heap.size := World.block_lt_of_cell? _ _ qc_0
  clear lt
  have lt : w.heap.size + 1 + 1 + 1 < w4.heap.size := World.block_lt_of_cell? _ _ qt_0
  clear lk
  have lk : w2.heap.size < w4.heap.size := World.block_lt_of_cell? _ _ qk_0
  have lx : w3.heap.size < w4.heap.size := World.block_lt_of_cell? _ _ qx_0
  replace C := Lib.hid (bj C.out c)
  clear c
  replace qa_0 : (w4.alloc (.cells #[.bool yb, .int .i64 yn, .string yS] 25)).cell? ⟨w.heap.size, 0, none⟩ = some (.bool ab) := past1 _ qa_0
  replace qa_1 : (w4.alloc (.cells #[.bool yb, .int .i64 yn, .string yS] 25)).cell? ⟨w.heap.size, 1, none⟩ = some (.int .i64 an) := past1 _ qa_1
  replace qa_2 : (w4.alloc (.cells #[.bool yb, .int .i64 yn, .string yS] 25)).cell? ⟨w.heap.size, 2, none⟩ = some (.string aS) := past1 _ qa_2
  replace qb_0 : (w4.alloc (.cells #[.bool yb, .int .i64 yn, .string yS] 25)).cell? ⟨w.heap.size + 1, 0, none⟩ = some (.bool bb) := past1 _ qb_0
  replace qb_1 : (w4.alloc (.cells #[.bool yb, .int .i64 yn, .string yS] 25)).cell? ⟨w.heap.size + 1, 1, none⟩ = some (.int .i64 bn) := past1 _ qb_1
  replace qb_2 : (w4.alloc (.cells #[.bool yb, .int .i64 yn, .string yS] 25)).cell? ⟨w.heap.size + 1, 2, none⟩ = some (.string bS) := past1 _ qb_2
  replace qc_0 : (w4.alloc (.cells #[.bool yb, .int .i64 yn, .string yS] 25)).cell? ⟨w.heap.size + 1 + 1, 0, none⟩ = some (.bool cb) := past1 _ qc_0
  replace qc_1 : (w4.alloc (.cells #[.bool yb, .int .i64 yn, .string yS] 25)).cell? ⟨w.heap.size + 1 + 1, 1, none⟩ = some (.int .i64 cn) := past1 _ qc_1
  replace qc_2 : (w4.alloc (.cells #[.bool yb, .int .i64 yn, .string yS] 25)).cell? ⟨w.heap.size + 1 + 1, 2, none⟩ = some (.string cS) := past1 _ qc_2
  replace qt_0 : (w4.alloc (.cells #[.bool yb, .int .i64 yn, .string yS] 25)).cell? ⟨w.heap.size + 1 + 1 + 1, 0, none⟩ = some (.bool true) := past1 _ qt_0
  replace qk_0 : (w4.alloc (.cells #[.bool yb, .int .i64 yn, .string yS] 25)).cell? ⟨w2.heap.size, 0, none⟩ = some (.int .i64 3) := past1 _ qk_0
  replace qk_1 : (w4.alloc (.cells #[.bool yb, .int .i64 yn, .string yS] 25)).cell? ⟨w2.heap.size, 1, none⟩ = some (.int .i64 0) := past1 _ qk_1
  replace qx_0 : (w4.alloc (.cells #[.bool yb, .int .i64 yn, .string yS] 25)).cell? ⟨w3.heap.size, 0, none⟩ = some (.bool xb) := past1 _ qx_0
  replace qx_1 : (w4.alloc (.cells #[.bool yb, .int .i64 yn, .string yS] 25)).cell? ⟨w3.heap.size, 1, none⟩ = some (.int .i64 xn) := past1 _ qx_1
  replace qx_2 : (w4.alloc (.cells #[.bool yb, .int .i64 yn, .string yS] 25)).cell? ⟨w3.heap.size, 2, none⟩ = some (.string xS) := past1 _ qx_2
  have qy_0 : (w4.alloc (.cells #[.bool yb, .int .i64 yn, .string yS] 25)).cell? ⟨w4.heap.size, 0, none⟩ = some (.bool yb) := World.cell?_alloc_at _ _ _ _ (rfl)
  have qy_1 : (w4.alloc (.cells #[.bool yb, .int .i64 yn, .string yS] 25)).cell? ⟨w4.heap.size, 1, none⟩ = some (.int .i64 yn) := World.cell?_alloc_at _ _ _ _ (rfl)
  have qy_2 : (w4.alloc (.cells #[.bool yb, .int .i64 yn, .string yS] 25)).cell? ⟨w4.heap.size, 2, none⟩ = some (.string yS) := World.cell?_alloc_at _ _ _ _ (rfl)
  replace C := Lib.hid (ba C.out (.cells #[.bool yb, .int .i64 yn, .string yS] 25))
  go_wp2_with fail
  refine (F3.out _ _ qt_0).mono ?_
  rintro e w5 ⟨rfl, c⟩
  replace qa_0 : w5.cell? ⟨w.heap.size, 0, none⟩ = some (.bool ab) := cell_later c qa_0
  replace qa_1 : w5.cell? ⟨w.heap.size, 1, none⟩ = some (.int .i64 an) := cell_later c qa_1
  replace qa_2 : w5.cell? ⟨w.heap.size, 2, none⟩ = some (.string aS) := cell_later c qa_2
  replace qb_0 : w5.cell? ⟨w.heap.size + 1, 0, none⟩ = some (.bool bb) := cell_later c qb_0
  replace qb_1 : w5.cell? ⟨w.heap.size + 1, 1, none⟩ = some (.int .i64 bn) := cell_later c qb_1
  replace qb_2 : w5.cell? ⟨w.heap.size + 1, 2, none⟩ = some (.string bS) := cell_later c qb_2
  replace qc_0 : w5.cell? ⟨w.heap.size + 1 + 1, 0, none⟩ = some (.bool cb) := cell_later c qc_0
  replace qc_1 : w5.cell? ⟨w.heap.size + 1 + 1, 1, none⟩ = some (.int .i64 cn) := cell_later c qc_1
  replace qc_2 : w5.cell? ⟨w.heap.size + 1 + 1, 2, none⟩ = some (.string cS) := cell_later c qc_2
  replace qt_0 : w5.cell? ⟨w.heap.size + 1 + 1 + 1, 0, none⟩ = some (.bool true) := cell_later c qt_0
  replace qk_0 : w5.cell? ⟨w2.heap.size, 0, none⟩ = some (.int .i64 3) := cell_later c qk_0
  replace qk_1 : w5.cell? ⟨w2.heap.size, 1, none⟩ = some (.int .i64 0) := cell_later c qk_1
  replace qx_0 : w5.cell? ⟨w3.heap.size, 0, none⟩ = some (.bool xb) := cell_later c qx_0
  replace qx_1 : w5.cell? ⟨w3.heap.size, 1, none⟩ = some (.int .i64 xn) := cell_later c qx_1
  replace qx_2 : w5.cell? ⟨w3.heap.size, 2, none⟩ = some (.string xS) := cell_later c qx_2
  replace qy_0 : w5.cell? ⟨w4.heap.size, 0, none⟩ = some (.bool yb) := cell_later c qy_0
  replace qy_1 : w5.cell? ⟨w4.heap.size, 1, none⟩ = some (.int .i64 yn) := cell_later c qy_1
  replace qy_2 : w5.cell? ⟨w4.heap.size, 2, none⟩ = some (.string yS) := cell_later c qy_2
  clear la
  have la : w.heap.size < w5.heap.size := World.block_lt_of_cell? _ _ qa_0
  clear lb
  have lb : w.heap.size + 1 < w5.heap.size := World.block_lt_of_cell? _ _ qb_0
  clear lc
  have lc : w.heap.size + 1 + 1 < w5.heap.size := World.block_lt_of_cell? _ _ qc_0
  clear lt
  have lt : w.heap.size + 1 + 1 + 1 < w5.heap.size := World.block_lt_of_cell? _ _ qt_0
  clear lk
  have lk : w2.heap.size < w5.heap.size := World.block_lt_of_cell? _ _ qk_0
  clear lx
  have lx : w3.heap.size < w5.heap.size := World.block_lt_of_cell? _ _ qx_0
  have ly : w4.heap.size < w5.heap.size := World.block_lt_of_cell? _ _ qy_0
  replace C := Lib.hid (bj C.out c)
  clear c
  clear qa_0
  clear qa_1
  clear qa_2
  clear la
  clear qb_0
  clear qb_1
  clear qb_2
  clear lb
  clear qc_0
  clear qc_1
  clear qc_2
  clear lc
  clear qt_0
  clear lt
  replace qk_0 : (w5.alloc (.cells #[.bool zb, .int .i64 zn, .string zS] 25)).cell? ⟨w2.heap.size, 0, none⟩ = some (.int .i64 3) := past1 _ qk_0
  replace qk_1 : (w5.alloc (.cells #[.bool zb, .int .i64 zn, .string zS] 25)).cell? ⟨w2.heap.size, 1, none⟩ = some (.int .i64 0) := past1 _ qk_1
  replace qx_0 : (w5.alloc (.cells #[.bool zb, .int .i64 zn, .string zS] 25)).cell? ⟨w3.heap.size, 0, none⟩ = some (.bool xb) := past1 _ qx_0
  replace qx_1 : (w5.alloc (.cells #[.bool zb, .int .i64 zn, .string zS] 25)).cell? ⟨w3.heap.size, 1, none⟩ = some (.int .i64 xn) := past1 _ qx_1
  replace qx_2 : (w5.alloc (.cells #[.bool zb, .int .i64 zn, .string zS] 25)).cell? ⟨w3.heap.size, 2, none⟩ = some (.string xS) := past1 _ qx_2
  replace qy_0 : (w5.alloc (.cells #[.bool zb, .int .i64 zn, .string zS] 25)).cell? ⟨w4.heap.size, 0, none⟩ = some (.bool yb) := past1 _ qy_0
  replace qy_1 : (w5.alloc (.cells #[.bool zb, .int .i64 zn, .string zS] 25)).cell? ⟨w4.heap.size, 1, none⟩ = some (.int .i64 yn) := past1 _ qy_1
  replace qy_2 : (w5.alloc (.cells #[.bool zb, .int .i64 zn, .string zS] 25)).cell? ⟨w4.heap.size, 2, none⟩ = some (.string yS) := past1 _ qy_2
  have qz_0 : (w5.alloc (.cells #[.bool zb, .int .i64 zn, .string zS] 25)).cell? ⟨w5.heap.size, 0, none⟩ = some (.bool zb) := World.cell?_alloc_at _ _ _ _ (rfl)
  have qz_1 : (w5.alloc (.cells #[.bool zb, .int .i64 zn, .string zS] 25)).cell? ⟨w5.heap.size, 1, none⟩ = some (.int .i64 zn) := World.cell?_alloc_at _ _ _ _ (rfl)
  have qz_2 : (w5.alloc (.cells #[.bool zb, .int .i64 zn, .string zS] 25)).cell? ⟨w5.heap.size, 2, none⟩ = some (.string zS) := World.cell?_alloc_at _ _ _ _ (rfl)
  replace C := Lib.hid (ba C.out (.cells #[.bool zb, .int .i64 zn, .string zS] 25))
  go_wp2_with fail
  refine (O1.out _).mono ?_
  rintro e w6 ⟨rfl, c⟩
  replace qk_0 : w6.cell? ⟨w2.heap.size, 0, none⟩ = some (.int .i64 3) := cell_later c qk_0
  replace qk_1 : w6.cell? ⟨w2.heap.size, 1, none⟩ = some (.int .i64 0) := cell_later c qk_1
  replace qx_0 : w6.cell? ⟨w3.heap.size, 0, none⟩ = some (.bool xb) := cell_later c qx_0
  replace qx_1 : w6.cell? ⟨w3.heap.size, 1, none⟩ = some (.int .i64 xn) := cell_later c qx_1
  replace qx_2 : w6.cell? ⟨w3.heap.size, 2, none⟩ = some (.string xS) := cell_later c qx_2
  replace qy_0 : w6.cell? ⟨w4.heap.size, 0, none⟩ = some (.bool yb) := cell_later c qy_0
  replace qy_1 : w6.cell? ⟨w4.heap.size, 1, none⟩ = some (.int .i64 yn) := cell_later c qy_1
  replace qy_2 : w6.cell? ⟨w4.heap.size, 2, none⟩ = some (.string yS) := cell_later c qy_2
  replace qz_0 : w6.cell? ⟨w5.heap.size, 0, none⟩ = some (.bool zb) := cell_later c qz_0
  replace qz_1 : w6.cell? ⟨w5.heap.size, 1, none⟩ = some (.int .i64 zn) := cell_later c qz_1
  replace qz_2 : w6.cell? ⟨w5.heap.size, 2, none⟩ = some (.string zS) := cell_later c qz_2
  clear lk
  have lk : w2.heap.size < w6.heap.size := World.block_lt_of_cell? _ _ qk_0
  clear lx
  have lx : w3.heap.size < w6.heap.size := World.block_lt_of_cell? _ _ qx_0
  clear ly
  have ly : w4.heap.size < w6.heap.size := World.block_lt_of_cell? _ _ qy_0
  have lz : w5.heap.size < w6.heap.size := World.block_lt_of_cell? _ _ qz_0
  replace C := Lib.hid (bj C.out c)
  clear c
  go_wp2_with fail
  refine (O2.out _).mono ?_
  rintro e w7 ⟨rfl, c⟩
  replace qk_0 : w7.cell? ⟨w2.heap.size, 0, none⟩ = some (.int .i64 3) := cell_later c qk_0
  replace qk_1 : w7.cell? ⟨w2.heap.size, 1, none⟩ = some (.int .i64 0) := cell_later c qk_1
  replace qx_0 : w7.cell? ⟨w3.heap.size, 0, none⟩ = some (.bool xb) := cell_later c qx_0
  replace qx_1 : w7.cell? ⟨w3.heap.size, 1, none⟩ = some (.int .i64 xn) := cell_later c qx_1
  replace qx_2 : w7.cell? ⟨w3.heap.size, 2, none⟩ = some (.string xS) := cell_later c qx_2
  replace qy_0 : w7.cell? ⟨w4.heap.size, 0, none⟩ = some (.bool yb) := cell_later c qy_0
  replace qy_1 : w7.cell? ⟨w4.heap.size, 1, none⟩ = some (.int .i64 yn) := cell_later c qy_1
  replace qy_2 : w7.cell? ⟨w4.heap.size, 2, none⟩ = some (.string yS) := cell_later c qy_2
  replace qz_0 : w7.cell? ⟨w5.heap.size, 0, none⟩ = some (.bool zb) := cell_later c qz_0
  replace qz_1 : w7.cell? ⟨w5.heap.size, 1, none⟩ = some (.int .i64 zn) := cell_later c qz_1
  replace qz_2 : w7.cell? ⟨w5.heap.size, 2, none⟩ = some (.string zS) := cell_later c qz_2
  clear lk
  have lk : w2.heap.size < w7.heap.size := World.block_lt_of_cell? _ _ qk_0
  clear lx
  have lx : w3.heap.size < w7.heap.size := World.block_lt_of_cell? _ _ qx_0
  clear ly
  have ly : w4.heap.size < w7.heap.size := World.block_lt_of_cell? _ _ qy_0
  clear lz
  have lz : w5.heap.size < w7.heap.size := World.block_lt_of_cell? _ _ qz_0
  replace C := Lib.hid (bj C.out c)
  clear c
  go_wp2_with fail
  refine (O3.out _).mono ?_
  rintro e w8 ⟨rfl, c⟩
  replace qk_0 : w8.cell? ⟨w2.heap.size, 0, none⟩ = some (.int .i64 3) := cell_later c qk_0
  replace qk_1 : w8.cell? ⟨w2.heap.size, 1, none⟩ = some (.int .i64 0) := cell_later c qk_1
  replace qx_0 : w8.cell? ⟨w3.heap.size, 0, none⟩ = some (.bool xb) := cell_later c qx_0
  replace qx_1 : w8.cell? ⟨w3.heap.size, 1, none⟩ = some (.int .i64 xn) := cell_later c qx_1
  replace qx_2 : w8.cell? ⟨w3.heap.size, 2, none⟩ = some (.string xS) := cell_later c qx_2
  replace qy_0 : w8.cell? ⟨w4.heap.size, 0, none⟩ = some (.bool yb) := cell_later c qy_0
  replace qy_1 : w8.cell? ⟨w4.heap.size, 1, none⟩ = some (.int .i64 yn) := cell_later c qy_1
  replace qy_2 : w8.cell? ⟨w4.heap.size, 2, none⟩ = some (.string yS) := cell_later c qy_2
  replace qz_0 : w8.cell? ⟨w5.heap.size, 0, none⟩ = some (.bool zb) := cell_later c qz_0
  replace qz_1 : w8.cell? ⟨w5.heap.size, 1, none⟩ = some (.int .i64 zn) := cell_later c qz_1
  replace qz_2 : w8.cell? ⟨w5.heap.size, 2, none⟩ = some (.string zS) := cell_later c qz_2
  clear lk
  have lk : w2.heap.size < w8.heap.size := World.block_lt_of_cell? _ _ qk_0
  clear lx
  have lx : w3.heap.size < w8.heap.size := World.block_lt_of_cell? _ _ qx_0
  clear ly
  have ly : w4.heap.size < w8.heap.size := World.block_lt_of_cell? _ _ qy_0
  clear lz
  have lz : w5.heap.size < w8.heap.size := World.block_lt_of_cell? _ _ qz_0
  replace C := Lib.hid (bj C.out c)
  clear c
  clear qz_0
  clear qz_1
  clear qz_2
  clear lz
  go_wp2_with fail
  refine (O4.out _).mono ?_
  rintro e w9 ⟨rfl, c⟩
  replace qk_0 : w9.cell? ⟨w2.heap.size, 0, none⟩ = some (.int .i64 3) := cell_later c qk_0
  replace qk_1 : w9.cell? ⟨w2.heap.size, 1, none⟩ = some (.int .i64 0) := cell_later c qk_1
  replace qx_0 : w9.cell? ⟨w3.heap.size, 0, none⟩ = some (.bool xb) := cell_later c qx_0
  replace qx_1 : w9.cell? ⟨w3.heap.size, 1, none⟩ = some (.int .i64 xn) := cell_later c qx_1
  replace qx_2 : w9.cell? ⟨w3.heap.size, 2, none⟩ = some (.string xS) := cell_later c qx_2
  replace qy_0 : w9.cell? ⟨w4.heap.size, 0, none⟩ = some (.bool yb) := cell_later c qy_0
  replace qy_1 : w9.cell? ⟨w4.heap.size, 1, none⟩ = some (.int .i64 yn) := cell_later c qy_1
  replace qy_2 : w9.cell? ⟨w4.heap.size, 2, none⟩ = some (.string yS) := cell_later c qy_2
  clear lk
  have lk : w2.heap.size < w9.heap.size := World.block_lt_of_cell? _ _ qk_0
  clear lx
  have lx : w3.heap.size < w9.heap.size := World.block_lt_of_cell? _ _ qx_0
  clear ly
  have ly : w4.heap.size < w9.heap.size := World.block_lt_of_cell? _ _ qy_0
  replace C := Lib.hid (bj C.out c)
  clear c
  rcases HP.out with ⟨rfl, rfl, rfl, rfl, rfl | rfl, p2 | ⟨p2, p3⟩⟩ | ⟨rfl, rfl, rfl, p2 | ⟨p2, p3⟩⟩ | ⟨rfl, rfl, rfl⟩ | ⟨rfl, rfl, rfl, e1, p2 | ⟨p2, p3⟩⟩ | ⟨rfl, rfl, rfl, e1⟩ | ⟨rfl, rfl, rfl, rfl, e1, p2 | ⟨p2, p3⟩⟩ | ⟨rfl, rfl, rfl, rfl, e1⟩
  all_goals clear HP
  all_goals
    go_wp2_with fail
    refine (O5.out _).mono ?_
    rintro e w9 ⟨rfl, c⟩
    replace C := Lib.hid (bj C.out c)
    clear c
    go_wp2_with fail
    go_ret
    exact ⟨by simp, C.out⟩
set_option maxRecDepth 100000 in
set_option maxHeartbeats 8000000 in
theorem orders_false (ab bb cb xb yb zb : Bool) (an bn cn xn yn zn kt st cxy cyz cxz cyx : Int) (aS bS cS xS yS zS : ByteArray) (sc : UInt8) (n1 : NumK sc kt st)
    (f1 : FiK false (.agg #[.bool ab, .int .i64 an, .string aS]) xb xn xS) (f2 : FiK false (.agg #[.bool bb, .int .i64 bn, .string bS]) yb yn yS) (f3 : FiK false (.agg #[.bool cb, .int .i64 cn, .string cS]) zb zn zS)
    (o1 : OdK (.agg #[.bool xb, .int .i64 xn, .string xS]) (.agg #[.bool yb, .int .i64 yn, .string yS]) (.agg #[.int .i64 kt, .int .i64 st]) cxy) (o2 : OdK (.agg #[.bool yb, .int .i64 yn, .string yS]) (.agg #[.bool zb, .int .i64 zn, .string zS]) (.agg #[.int .i64 kt, .int .i64 st]) cyz) (o3 : OdK (.agg #[.bool xb, .int .i64 xn, .string xS]) (.agg #[.bool zb, .int .i64 zn, .string zS]) (.agg #[.int .i64 kt, .int .i64 st]) cxz) (o4 : OdK (.agg #[.bool yb, .int .i64 yn, .string yS]) (.agg #[.bool xb, .int .i64 xn, .string xS]) (.agg #[.int .i64 kt, .int .i64 st]) cyx) (o5 : OdK (.agg #[.bool xb, .int .i64 xn, .string xS]) (.agg #[.bool xb, .int .i64 xn, .string xS]) (.agg #[.int .i64 kt, .int .i64 st]) 0)
    (hw : wrap64 (-cyx) = cxy) (hp : OrdH xb yb xn yn xS yS cxy cyz cxz)
    (w : World) (hE : VEnv w) : Calls Tryd.prog 9 #[.agg #[.bool ab, .int .i64 an, .string aS], .agg #[.bool bb, .int .i64 bn, .string bS], .agg #[.bool cb, .int .i64 cn, .string cS], .int .u8 (sc.toNat : Int), .bool false] w (BoolS w true) := by
  have HE := Lib.hid hE
  have N1 := Lib.hid n1
  have F1 := Lib.hid f1
  have F2 := Lib.hid f2
  have F3 := Lib.hid f3
  have O1 := Lib.hid o1
  have O2 := Lib.hid o2
  have O3 := Lib.hid o3
  have O4 := Lib.hid o4
  have O5 := Lib.hid o5
  have HP := Lib.hid hp
  clear hE n1 f1 f2 f3 o1 o2 o3 o4 o5 hp
  have C := Lib.hid (below0 w)
  have qa_0 : (w.alloc (.cells #[.bool ab, .int .i64 an, .string aS] 25)).cell? ⟨w.heap.size, 0, none⟩ = some (.bool ab) := World.cell?_alloc_at _ _ _ _ (rfl)
  have qa_1 : (w.alloc (.cells #[.bool ab, .int .i64 an, .string aS] 25)).cell? ⟨w.heap.size, 1, none⟩ = some (.int .i64 an) := World.cell?_alloc_at _ _ _ _ (rfl)
  have qa_2 : (w.alloc (.cells #[.bool ab, .int .i64 an, .string aS] 25)).cell? ⟨w.heap.size, 2, none⟩ = some (.string aS) := World.cell?_alloc_at _ _ _ _ (rfl)
  replace C := Lib.hid (ba C.out (.cells #[.bool ab, .int .i64 an, .string aS] 25))
  replace qa_0 : ((w.alloc (.cells #[.bool ab, .int .i64 an, .string aS] 25)).alloc (.cells #[.bool bb, .int .i64 bn, .string bS] 25)).cell? ⟨w.heap.size, 0, none⟩ = some (.bool ab) := past1 _ qa_0
  replace qa_1 : ((w.alloc (.cells #[.bool ab, .int .i64 an, .string aS] 25)).alloc (.cells #[.bool bb, .int .i64 bn, .string bS] 25)).cell? ⟨w.heap.size, 1, none⟩ = some (.int .i64 an) := past1 _ qa_1
  replace qa_2 : ((w.alloc (.cells #[.bool ab, .int .i64 an, .string aS] 25)).alloc (.cells #[.bool bb, .int .i64 bn, .string bS] 25)).cell? ⟨w.heap.size, 2, none⟩ = some (.string aS) := past1 _ qa_2
  have qb_0 : ((w.alloc (.cells #[.bool ab, .int .i64 an, .string aS] 25)).alloc (.cells #[.bool bb, .int .i64 bn, .string bS] 25)).cell? ⟨w.heap.size + 1, 0, none⟩ = some (.bool bb) := World.cell?_alloc_at _ _ _ _ (by simp)
  have qb_1 : ((w.alloc (.cells #[.bool ab, .int .i64 an, .string aS] 25)).alloc (.cells #[.bool bb, .int .i64 bn, .string bS] 25)).cell? ⟨w.heap.size + 1, 1, none⟩ = some (.int .i64 bn) := World.cell?_alloc_at _ _ _ _ (by simp)
  have qb_2 : ((w.alloc (.cells #[.bool ab, .int .i64 an, .string aS] 25)).alloc (.cells #[.bool bb, .int .i64 bn, .string bS] 25)).cell? ⟨w.heap.size + 1, 2, none⟩ = some (.string bS) := World.cell?_alloc_at _ _ _ _ (by simp)
  replace C := Lib.hid (ba C.out (.cells #[.bool bb, .int .i64 bn, .string bS] 25))
  replace qa_0 : (((w.alloc (.cells #[.bool ab, .int .i64 an, .string aS] 25)).alloc (.cells #[.bool bb, .int .i64 bn, .string bS] 25)).alloc (.cells #[.bool cb, .int .i64 cn, .string cS] 25)).cell? ⟨w.heap.size, 0, none⟩ = some (.bool ab) := past1 _ qa_0
  replace qa_1 : (((w.alloc (.cells #[.bool ab, .int .i64 an, .string aS] 25)).alloc (.cells #[.bool bb, .int .i64 bn, .string bS] 25)).alloc (.cells #[.bool cb, .int .i64 cn, .string cS] 25)).cell? ⟨w.heap.size, 1, none⟩ = some (.int .i64 an) := past1 _ qa_1
  replace qa_2 : (((w.alloc (.cells #[.bool ab, .int .i64 an, .string aS] 25)).alloc (.cells #[.bool bb, .int .i64 bn, .string bS] 25)).alloc (.cells #[.bool cb, .int .i64 cn, .string cS] 25)).cell? ⟨w.heap.size, 2, none⟩ = some (.string aS) := past1 _ qa_2
  replace qb_0 : (((w.alloc (.cells #[.bool ab, .int .i64 an, .string aS] 25)).alloc (.cells #[.bool bb, .int .i64 bn, .string bS] 25)).alloc (.cells #[.bool cb, .int .i64 cn, .string cS] 25)).cell? ⟨w.heap.size + 1, 0, none⟩ = some (.bool bb) := past1 _ qb_0
  replace qb_1 : (((w.alloc (.cells #[.bool ab, .int .i64 an, .string aS] 25)).alloc (.cells #[.bool bb, .int .i64 bn, .string bS] 25)).alloc (.cells #[.bool cb, .int .i64 cn, .string cS] 25)).cell? ⟨w.heap.size + 1, 1, none⟩ = some (.int .i64 bn) := past1 _ qb_1
  replace qb_2 : (((w.alloc (.cells #[.bool ab, .int .i64 an, .string aS] 25)).alloc (.cells #[.bool bb, .int .i64 bn, .string bS] 25)).alloc (.cells #[.bool cb, .int .i64 cn, .string cS] 25)).cell? ⟨w.heap.size + 1, 2, none⟩ = some (.string bS) := past1 _ qb_2
  have qc_0 : (((w.alloc (.cells #[.bool ab, .int .i64 an, .string aS] 25)).alloc (.cells #[.bool bb, .int .i64 bn, .string bS] 25)).alloc (.cells #[.bool cb, .int .i64 cn, .string cS] 25)).cell? ⟨w.heap.size + 1 + 1, 0, none⟩ = some (.bool cb) := World.cell?_alloc_at _ _ _ _ (by simp)
  have qc_1 : (((w.alloc (.cells #[.bool ab, .int .i64 an, .string aS] 25)).alloc (.cells #[.bool bb, .int .i64 bn, .string bS] 25)).alloc (.cells #[.bool cb, .int .i64 cn, .string cS] 25)).cell? ⟨w.heap.size + 1 + 1, 1, none⟩ = some (.int .i64 cn) := World.cell?_alloc_at _ _ _ _ (by simp)
  have qc_2 : (((w.alloc (.cells #[.bool ab, .int .i64 an, .string aS] 25)).alloc (.cells #[.bool bb, .int .i64 bn, .string bS] 25)).alloc (.cells #[.bool cb, .int .i64 cn, .string cS] 25)).cell? ⟨w.heap.size + 1 + 1, 2, none⟩ = some (.string cS) := World.cell?_alloc_at _ _ _ _ (by simp)
  replace C := Lib.hid (ba C.out (.cells #[.bool cb, .int .i64 cn, .string cS] 25))
  replace qa_0 : ((((w.alloc (.cells #[.bool ab, .int .i64 an, .string aS] 25)).alloc (.cells #[.bool bb, .int .i64 bn, .string bS] 25)).alloc (.cells #[.bool cb, .int .i64 cn, .string cS] 25)).alloc (.cells #[.bool false] 4)).cell? ⟨w.heap.size, 0, none⟩ = some (.bool ab) := past1 _ qa_0
  replace qa_1 : ((((w.alloc (.cells #[.bool ab, .int .i64 an, .string aS] 25)).alloc (.cells #[.bool bb, .int .i64 bn, .string bS] 25)).alloc (.cells #[.bool cb, .int .i64 cn, .string cS] 25)).alloc (.cells #[.bool false] 4)).cell? ⟨w.heap.size, 1, none⟩ = some (.int .i64 an) := past1 _ qa_1
  replace qa_2 : ((((w.alloc (.cells #[.bool ab, .int .i64 an, .string aS] 25)).alloc (.cells #[.bool bb, .int .i64 bn, .string bS] 25)).alloc (.cells #[.bool cb, .int .i64 cn, .string cS] 25)).alloc (.cells #[.bool false] 4)).cell? ⟨w.heap.size, 2, none⟩ = some (.string aS) := past1 _ qa_2
  replace qb_0 : ((((w.alloc (.cells #[.bool ab, .int .i64 an, .string aS] 25)).alloc (.cells #[.bool bb, .int .i64 bn, .string bS] 25)).alloc (.cells #[.bool cb, .int .i64 cn, .string cS] 25)).alloc (.cells #[.bool false] 4)).cell? ⟨w.heap.size + 1, 0, none⟩ = some (.bool bb) := past1 _ qb_0
  replace qb_1 : ((((w.alloc (.cells #[.bool ab, .int .i64 an, .string aS] 25)).alloc (.cells #[.bool bb, .int .i64 bn, .string bS] 25)).alloc (.cells #[.bool cb, .int .i64 cn, .string cS] 25)).alloc (.cells #[.bool false] 4)).cell? ⟨w.heap.size + 1, 1, none⟩ = some (.int .i64 bn) := past1 _ qb_1
  replace qb_2 : ((((w.alloc (.cells #[.bool ab, .int .i64 an, .string aS] 25)).alloc (.cells #[.bool bb, .int .i64 bn, .string bS] 25)).alloc (.cells #[.bool cb, .int .i64 cn, .string cS] 25)).alloc (.cells #[.bool false] 4)).cell? ⟨w.heap.size + 1, 2, none⟩ = some (.string bS) := past1 _ qb_2
  replace qc_0 : ((((w.alloc (.cells #[.bool ab, .int .i64 an, .string aS] 25)).alloc (.cells #[.bool bb, .int .i64 bn, .string bS] 25)).alloc (.cells #[.bool cb, .int .i64 cn, .string cS] 25)).alloc (.cells #[.bool false] 4)).cell? ⟨w.heap.size + 1 + 1, 0, none⟩ = some (.bool cb) := past1 _ qc_0
  replace qc_1 : ((((w.alloc (.cells #[.bool ab, .int .i64 an, .string aS] 25)).alloc (.cells #[.bool bb, .int .i64 bn, .string bS] 25)).alloc (.cells #[.bool cb, .int .i64 cn, .string cS] 25)).alloc (.cells #[.bool false] 4)).cell? ⟨w.heap.size + 1 + 1, 1, none⟩ = some (.int .i64 cn) := past1 _ qc_1
  replace qc_2 : ((((w.alloc (.cells #[.bool ab, .int .i64 an, .string aS] 25)).alloc (.cells #[.bool bb, .int .i64 bn, .string bS] 25)).alloc (.cells #[.bool cb, .int .i64 cn, .string cS] 25)).alloc (.cells #[.bool false] 4)).cell? ⟨w.heap.size + 1 + 1, 2, none⟩ = some (.string cS) := past1 _ qc_2
  have qt_0 : ((((w.alloc (.cells #[.bool ab, .int .i64 an, .string aS] 25)).alloc (.cells #[.bool bb, .int .i64 bn, .string bS] 25)).alloc (.cells #[.bool cb, .int .i64 cn, .string cS] 25)).alloc (.cells #[.bool false] 4)).cell? ⟨w.heap.size + 1 + 1 + 1, 0, none⟩ = some (.bool false) := World.cell?_alloc_at _ _ _ _ (by simp)
  replace C := Lib.hid (ba C.out (.cells #[.bool false] 4))
  go_enter Tryd.func9, Tryd.ntmps9
  go_wp2_with fail
  refine (examples10 _ (HE.out.later C.out)).mono ?_
  rintro e w1 ⟨rfl, c⟩
  replace qa_0 : w1.cell? ⟨w.heap.size, 0, none⟩ = some (.bool ab) := cell_later c qa_0
  replace qa_1 : w1.cell? ⟨w.heap.size, 1, none⟩ = some (.int .i64 an) := cell_later c qa_1
  replace qa_2 : w1.cell? ⟨w.heap.size, 2, none⟩ = some (.string aS) := cell_later c qa_2
  replace qb_0 : w1.cell? ⟨w.heap.size + 1, 0, none⟩ = some (.bool bb) := cell_later c qb_0
  replace qb_1 : w1.cell? ⟨w.heap.size + 1, 1, none⟩ = some (.int .i64 bn) := cell_later c qb_1
  replace qb_2 : w1.cell? ⟨w.heap.size + 1, 2, none⟩ = some (.string bS) := cell_later c qb_2
  replace qc_0 : w1.cell? ⟨w.heap.size + 1 + 1, 0, none⟩ = some (.bool cb) := cell_later c qc_0
  replace qc_1 : w1.cell? ⟨w.heap.size + 1 + 1, 1, none⟩ = some (.int .i64 cn) := cell_later c qc_1
  replace qc_2 : w1.cell? ⟨w.heap.size + 1 + 1, 2, none⟩ = some (.string cS) := cell_later c qc_2
  replace qt_0 : w1.cell? ⟨w.heap.size + 1 + 1 + 1, 0, none⟩ = some (.bool false) := cell_later c qt_0
  have la : w.heap.size < w1.heap.size := World.block_lt_of_cell? _ _ qa_0
  have lb : w.heap.size + 1 < w1.heap.size := World.block_lt_of_cell? _ _ qb_0
  have lc : w.heap.size + 1 + 1 < w1.heap.size := World.block_lt_of_cell? _ _ qc_0
  have lt : w.heap.size + 1 + 1 + 1 < w1.heap.size := World.block_lt_of_cell? _ _ qt_0
  replace C := Lib.hid (bj C.out c)
  clear c
  go_wp2_with fail
  refine (N1.out _).mono ?_
  rintro e w2 ⟨rfl, c⟩
  replace qa_0 : w2.cell? ⟨w.heap.size, 0, none⟩ = some (.bool ab) := cell_later c qa_0
  replace qa_1 : w2.cell? ⟨w.heap.size, 1, none⟩ = some (.int .i64 an) := cell_later c qa_1
  replace qa_2 : w2.cell? ⟨w.heap.size, 2, none⟩ = some (.string aS) := cell_later c qa_2
  replace qb_0 : w2.cell? ⟨w.heap.size + 1, 0, none⟩ = some (.bool bb) := cell_later c qb_0
  replace qb_1 : w2.cell? ⟨w.heap.size + 1, 1, none⟩ = some (.int .i64 bn) := cell_later c qb_1
  replace qb_2 : w2.cell? ⟨w.heap.size + 1, 2, none⟩ = some (.string bS) := cell_later c qb_2
  replace qc_0 : w2.cell? ⟨w.heap.size + 1 + 1, 0, none⟩ = some (.bool cb) := cell_later c qc_0
  replace qc_1 : w2.cell? ⟨w.heap.size + 1 + 1, 1, none⟩ = some (.int .i64 cn) := cell_later c qc_1
  replace qc_2 : w2.cell? ⟨w.heap.size + 1 + 1, 2, none⟩ = some (.string cS) := cell_later c qc_2
  replace qt_0 : w2.cell? ⟨w.heap.size + 1 + 1 + 1, 0, none⟩ = some (.bool false) := cell_later c qt_0
  clear la
  have la : w.heap.size < w2.heap.size := World.block_lt_of_cell? _ _ qa_0
  clear lb
  have lb : w.heap.size + 1 < w2.heap.size := World.block_lt_of_cell? _ _ qb_0
  clear lc
  have lc : w.heap.size + 1 + 1 < w2.heap.size := World.block_lt_of_cell? _ _ qc_0
  clear lt
  have lt : w.heap.size + 1 + 1 + 1 < w2.heap.size := World.block_lt_of_cell? _ _ qt_0
  replace C := Lib.hid (bj C.out c)
  clear c
  replace qa_0 : (w2.alloc (.cells #[.int .i64 kt, .int .i64 st] 23)).cell? ⟨w.heap.size, 0, none⟩ = some (.bool ab) := past1 _ qa_0
  replace qa_1 : (w2.alloc (.cells #[.int .i64 kt, .int .i64 st] 23)).cell? ⟨w.heap.size, 1, none⟩ = some (.int .i64 an) := past1 _ qa_1
  replace qa_2 : (w2.alloc (.cells #[.int .i64 kt, .int .i64 st] 23)).cell? ⟨w.heap.size, 2, none⟩ = some (.string aS) := past1 _ qa_2
  replace qb_0 : (w2.alloc (.cells #[.int .i64 kt, .int .i64 st] 23)).cell? ⟨w.heap.size + 1, 0, none⟩ = some (.bool bb) := past1 _ qb_0
  replace qb_1 : (w2.alloc (.cells #[.int .i64 kt, .int .i64 st] 23)).cell? ⟨w.heap.size + 1, 1, none⟩ = some (.int .i64 bn) := past1 _ qb_1
  replace qb_2 : (w2.alloc (.cells #[.int .i64 kt, .int .i64 st] 23)).cell? ⟨w.heap.size + 1, 2, none⟩ = some (.string bS) := past1 _ qb_2
  replace qc_0 : (w2.alloc (.cells #[.int .i64 kt, .int .i64 st] 23)).cell? ⟨w.heap.size + 1 + 1, 0, none⟩ = some (.bool cb) := past1 _ qc_0
  replace qc_1 : (w2.alloc (.cells #[.int .i64 kt, .int .i64 st] 23)).cell? ⟨w.heap.size + 1 + 1, 1, none⟩ = some (.int .i64 cn) := past1 _ qc_1
  replace qc_2 : (w2.alloc (.cells #[.int .i64 kt, .int .i64 st] 23)).cell? ⟨w.heap.size + 1 + 1, 2, none⟩ = some (.string cS) := past1 _ qc_2
  replace qt_0 : (w2.alloc (.cells #[.int .i64 kt, .int .i64 st] 23)).cell? ⟨w.heap.size + 1 + 1 + 1, 0, none⟩ = some (.bool false) := past1 _ qt_0
  have qk_0 : (w2.alloc (.cells #[.int .i64 kt, .int .i64 st] 23)).cell? ⟨w2.heap.size, 0, none⟩ = some (.int .i64 kt) := World.cell?_alloc_at _ _ _ _ (rfl)
  have qk_1 : (w2.alloc (.cells #[.int .i64 kt, .int .i64 st] 23)).cell? ⟨w2.heap.size, 1, none⟩ = some (.int .i64 st) := World.cell?_alloc_at _ _ _ _ (rfl)
  replace C := Lib.hid (ba C.out (.cells #[.int .i64 kt, .int .i64 st] 23))
  go_wp2_with fail
  refine (F1.out _ _ qt_0).mono ?_
  rintro e w3 ⟨rfl, c⟩
  replace qa_0 : w3.cell? ⟨w.heap.size, 0, none⟩ = some (.bool ab) := cell_later c qa_0
  replace qa_1 : w3.cell? ⟨w.heap.size, 1, none⟩ = some (.int .i64 an) := cell_later c qa_1
  replace qa_2 : w3.cell? ⟨w.heap.size, 2, none⟩ = some (.string aS) := cell_later c qa_2
  replace qb_0 : w3.cell? ⟨w.heap.size + 1, 0, none⟩ = some (.bool bb) := cell_later c qb_0
  replace qb_1 : w3.cell? ⟨w.heap.size + 1, 1, none⟩ = some (.int .i64 bn) := cell_later c qb_1
  replace qb_2 : w3.cell? ⟨w.heap.size + 1, 2, none⟩ = some (.string bS) := cell_later c qb_2
  replace qc_0 : w3.cell? ⟨w.heap.size + 1 + 1, 0, none⟩ = some (.bool cb) := cell_later c qc_0
  replace qc_1 : w3.cell? ⟨w.heap.size + 1 + 1, 1, none⟩ = some (.int .i64 cn) := cell_later c qc_1
  replace qc_2 : w3.cell? ⟨w.heap.size + 1 + 1, 2, none⟩ = some (.string cS) := cell_later c qc_2
  replace qt_0 : w3.cell? ⟨w.heap.size + 1 + 1 + 1, 0, none⟩ = some (.bool false) := cell_later c qt_0
  replace qk_0 : w3.cell? ⟨w2.heap.size, 0, none⟩ = some (.int .i64 kt) := cell_later c qk_0
  replace qk_1 : w3.cell? ⟨w2.heap.size, 1, none⟩ = some (.int .i64 st) := cell_later c qk_1
  clear la
  have la : w.heap.size < w3.heap.size := World.block_lt_of_cell? _ _ qa_0
  clear lb
  have lb : w.heap.size + 1 < w3.heap.size := World.block_lt_of_cell? _ _ qb_0
  clear lc
  have lc : w.heap.size + 1 + 1 < w3.heap.size := World.block_lt_of_cell? _ _ qc_0
  clear lt
  have lt : w.heap.size + 1 + 1 + 1 < w3.heap.size := World.block_lt_of_cell? _ _ qt_0
  have lk : w2.heap.size < w3.heap.size := World.block_lt_of_cell? _ _ qk_0
  replace C := Lib.hid (bj C.out c)
  clear c
  replace qa_0 : (w3.alloc (.cells #[.bool xb, .int .i64 xn, .string xS] 25)).cell? ⟨w.heap.size, 0, none⟩ = some (.bool ab) := past1 _ qa_0
  replace qa_1 : (w3.alloc (.cells #[.bool xb, .int .i64 xn, .string xS] 25)).cell? ⟨w.heap.size, 1, none⟩ = some (.int .i64 an) := past1 _ qa_1
  replace qa_2 : (w3.alloc (.cells #[.bool xb, .int .i64 xn, .string xS] 25)).cell? ⟨w.heap.size, 2, none⟩ = some (.string aS) := past1 _ qa_2
  replace qb_0 : (w3.alloc (.cells #[.bool xb, .int .i64 xn, .string xS] 25)).cell? ⟨w.heap.size + 1, 0, none⟩ = some (.bool bb) := past1 _ qb_0
  replace qb_1 : (w3.alloc (.cells #[.bool xb, .int .i64 xn, .string xS] 25)).cell? ⟨w.heap.size + 1, 1, none⟩ = some (.int .i64 bn) := past1 _ qb_1
  replace qb_2 : (w3.alloc (.cells #[.bool xb, .int .i64 xn, .string xS] 25)).cell? ⟨w.heap.size + 1, 2, none⟩ = some (.string bS) := past1 _ qb_2
  replace qc_0 : (w3.alloc (.cells #[.bool xb, .int .i64 xn, .string xS] 25)).cell? ⟨w.heap.size + 1 + 1, 0, none⟩ = some (.bool cb) := past1 _ qc_0
  replace qc_1 : (w3.alloc (.cells #[.bool xb, .int .i64 xn, .string xS] 25)).cell? ⟨w.heap.size + 1 + 1, 1, none⟩ = some (.int .i64 cn) := past1 _ qc_1
  replace qc_2 : (w3.alloc (.cells #[.bool xb, .int .i64 xn, .string xS] 25)).cell? ⟨w.heap.size + 1 + 1, 2, none⟩ = some (.string cS) := past1 _ qc_2
  replace qt_0 : (w3.alloc (.cells #[.bool xb, .int .i64 xn, .string xS] 25)).cell? ⟨w.heap.size + 1 + 1 + 1, 0, none⟩ = some (.bool false) := past1 _ qt_0
  replace qk_0 : (w3.alloc (.cells #[.bool xb, .int .i64 xn, .string xS] 25)).cell? ⟨w2.heap.size, 0, none⟩ = some (.int .i64 kt) := past1 _ qk_0
  replace qk_1 : (w3.alloc (.cells #[.bool xb, .int .i64 xn, .string xS] 25)).cell? ⟨w2.heap.size, 1, none⟩ = some (.int .i64 st) := past1 _ qk_1
  have qx_0 : (w3.alloc (.cells #[.bool xb, .int .i64 xn, .string xS] 25)).cell? ⟨w3.heap.size, 0, none⟩ = some (.bool xb) := World.cell?_alloc_at _ _ _ _ (rfl)
  have qx_1 : (w3.alloc (.cells #[.bool xb, .int .i64 xn, .string xS] 25)).cell? ⟨w3.heap.size, 1, none⟩ = some (.int .i64 xn) := World.cell?_alloc_at _ _ _ _ (rfl)
  have qx_2 : (w3.alloc (.cells #[.bool xb, .int .i64 xn, .string xS] 25)).cell? ⟨w3.heap.size, 2, none⟩ = some (.string xS) := World.cell?_alloc_at _ _ _ _ (rfl)
  replace C := Lib.hid (ba C.out (.cells #[.bool xb, .int .i64 xn, .string xS] 25))
  go_wp2_with fail
  refine (F2.out _ _ qt_0).mono ?_
  rintro e w4 ⟨rfl, c⟩
  replace qa_0 : w4.cell? ⟨w.heap.size, 0, none⟩ = some (.bool ab) := cell_later c qa_0
  replace qa_1 : w4.cell? ⟨w.heap.size, 1, none⟩ = some (.int .i64 an) := cell_later c qa_1
  replace qa_2 : w4.cell? ⟨w.heap.size, 2, none⟩ = some (.string aS) := cell_later c qa_2
  replace qb_0 : w4.cell? ⟨w.heap.size + 1, 0, none⟩ = some (.bool bb) := cell_later c qb_0
  replace qb_1 : w4.cell? ⟨w.heap.size + 1, 1, none⟩ = some (.int .i64 bn) := cell_later c qb_1
  replace qb_2 : w4.cell? ⟨w.heap.size + 1, 2, none⟩ = some (.string bS) := cell_later c qb_2
  replace qc_0 : w4.cell? ⟨w.heap.size + 1 + 1, 0, none⟩ = some (.bool cb) := cell_later c qc_0
  replace qc_1 : w4.cell? ⟨w.heap.size + 1 + 1, 1, none⟩ = some (.int .i64 cn) := cell_later c qc_1
  replace qc_2 : w4.cell? ⟨w.heap.size + 1 + 1, 2, none⟩ = some (.string cS) := cell_later c qc_2
  replace qt_0 : w4.cell? ⟨w.heap.size + 1 + 1 + 1, 0, none⟩ = some (.bool false) := cell_later c qt_0
  replace qk_0 : w4.cell? ⟨w2.heap.size, 0, none⟩ = some (.int .i64 kt) := cell_later c qk_0
  replace qk_1 : w4.cell? ⟨w2.heap.size, 1, none⟩ = some (.int .i64 st) := cell_later c qk_1
  replace qx_0 : w4.cell? ⟨w3.heap.size, 0, none⟩ = some (.bool xb) := cell_later c qx_0
  replace qx_1 : w4.cell? ⟨w3.heap.size, 1, none⟩ = some (.int .i64 xn) := cell_later c qx_1
  replace qx_2 : w4.cell? ⟨w3.heap.size, 2, none⟩ = some (.string xS) := cell_later c qx_2
  clear la
  have la : w.heap.size < w4.heap.size := World.block_lt_of_cell? _ _ qa_0
  clear lb
  have lb : w.heap.size + 1 < w4.heap.size := World.block_lt_of_cell? _ _ qb_0
  clear lc
  have lc : w.heap.size + 1 + 1 < w4.heap.size := World.block_lt_of_cell? _ _ qc_0
  clear lt
  have lt : w.heap.size + 1 + 1 + 1 < w4.heap.size := World.block_lt_of_cell? _ _ qt_0
  clear lk
  have lk : w2.heap.size < w4.heap.size := World.block_lt_of_cell? _ _ qk_0
  have lx : w3.heap.size < w4.heap.size := World.block_lt_of_cell? _ _ qx_0
  replace C := Lib.hid (bj C.out c)
  clear c
  replace qa_0 : (w4.alloc (.cells #[.bool yb, .int .i64 yn, .string yS] 25)).cell? ⟨w.heap.size, 0, none⟩ = some (.bool ab) := past1 _ qa_0
  replace qa_1 : (w4.alloc (.cells #[.bool yb, .int .i64 yn, .string yS] 25)).cell? ⟨w.heap.size, 1, none⟩ = some (.int .i64 an) := past1 _ qa_1
  replace qa_2 : (w4.alloc (.cells #[.bool yb, .int .i64 yn, .string yS] 25)).cell? ⟨w.heap.size, 2, none⟩ = some (.string aS) := past1 _ qa_2
  replace qb_0 : (w4.alloc (.cells #[.bool yb, .int .i64 yn, .string yS] 25)).cell? ⟨w.heap.size + 1, 0, none⟩ = some (.bool bb) := past1 _ qb_0
  replace qb_1 : (w4.alloc (.cells #[.bool yb, .int .i64 yn, .string yS] 25)).cell? ⟨w.heap.size + 1, 1, none⟩ = some (.int .i64 bn) := past1 _ qb_1
  replace qb_2 : (w4.alloc (.cells #[.bool yb, .int .i64 yn, .string yS] 25)).cell? ⟨w.heap.size + 1, 2, none⟩ = some (.string bS) := past1 _ qb_2
  replace qc_0 : (w4.alloc (.cells #[.bool yb, .int .i64 yn, .string yS] 25)).cell? ⟨w.heap.size + 1 + 1, 0, none⟩ = some (.bool cb) := past1 _ qc_0
  replace qc_1 : (w4.alloc (.cells #[.bool yb, .int .i64 yn, .string yS] 25)).cell? ⟨w.heap.size + 1 + 1, 1, none⟩ = some (.int .i64 cn) := past1 _ qc_1
  replace qc_2 : (w4.alloc (.cells #[.bool yb, .int .i64 yn, .string yS] 25)).cell? ⟨w.heap.size + 1 + 1, 2, none⟩ = some (.string cS) := past1 _ qc_2
  replace qt_0 : (w4.alloc (.cells #[.bool yb, .int .i64 yn, .string yS] 25)).cell? ⟨w.heap.size + 1 + 1 + 1, 0, none⟩ = some (.bool false) := past1 _ qt_0
  replace qk_0 : (w4.alloc (.cells #[.bool yb, .int .i64 yn, .string yS] 25)).cell? ⟨w2.heap.size, 0, none⟩ = some (.int .i64 kt) := past1 _ qk_0
  replace qk_1 : (w4.alloc (.cells #[.bool yb, .int .i64 yn, .string yS] 25)).cell? ⟨w2.heap.size, 1, none⟩ = some (.int .i64 st) := past1 _ qk_1
  replace qx_0 : (w4.alloc (.cells #[.bool yb, .int .i64 yn, .string yS] 25)).cell? ⟨w3.heap.size, 0, none⟩ = some (.bool xb) := past1 _ qx_0
  replace qx_1 : (w4.alloc (.cells #[.bool yb, .int .i64 yn, .string yS] 25)).cell? ⟨w3.heap.size, 1, none⟩ = some (.int .i64 xn) := past1 _ qx_1
  replace qx_2 : (w4.alloc (.cells #[.bool yb, .int .i64 yn, .string yS] 25)).cell? ⟨w3.heap.size, 2, none⟩ = some (.string xS) := past1 _ qx_2
  have qy_0 : (w4.alloc (.cells #[.bool yb, .int .i64 yn, .string yS] 25)).cell? ⟨w4.heap.size, 0, none⟩ = some (.bool yb) := World.cell?_alloc_at _ _ _ _ (rfl)
  have qy_1 : (w4.alloc (.cells #[.bool yb, .int .i64 yn, .string yS] 25)).cell? ⟨w4.heap.size, 1, none⟩ = some (.int .i64 yn) := World.cell?_alloc_at _ _ _ _ (rfl)
  have qy_2 : (w4.alloc (.cells #[.bool yb, .int .i64 yn, .string yS] 25)).cell? ⟨w4.heap.size, 2, none⟩ = some (.string yS) := World.cell?_alloc_at _ _ _ _ (rfl)
  replace C := Lib.hid (ba C.out (.cells #[.bool yb, .int .i64 yn, .string yS] 25))
  go_wp2_with fail
  refine (F3.out _ _ qt_0).mono ?_
  rintro e w5 ⟨rfl, c⟩
  replace qa_0 : w5.cell? ⟨w.heap.size, 0, none⟩ = some (.bool ab) := cell_later c qa_0
  replace qa_1 : w5.cell? ⟨w.heap.size, 1, none⟩ = some (.int .i64 an) := cell_later c qa_1
  replace qa_2 : w5.cell? ⟨w.heap.size, 2, none⟩ = some (.string aS) := cell_later c qa_2
  replace qb_0 : w5.cell? ⟨w.heap.size + 1, 0, none⟩ = some (.bool bb) := cell_later c qb_0
  replace qb_1 : w5.cell? ⟨w.heap.size + 1, 1, none⟩ = some (.int .i64 bn) := cell_later c qb_1
  replace qb_2 : w5.cell? ⟨w.heap.size + 1, 2, none⟩ = some (.string bS) := cell_later c qb_2
  replace qc_0 : w5.cell? ⟨w.heap.size + 1 + 1, 0, none⟩ = some (.bool cb) := cell_later c qc_0
  replace qc_1 : w5.cell? ⟨w.heap.size + 1 + 1, 1, none⟩ = some (.int .i64 cn) := cell_later c qc_1
  replace qc_2 : w5.cell? ⟨w.heap.size + 1 + 1, 2, none⟩ = some (.string cS) := cell_later c qc_2
  replace qt_0 : w5.cell? ⟨w.heap.size + 1 + 1 + 1, 0, none⟩ = some (.bool false) := cell_later c qt_0
  replace qk_0 : w5.cell? ⟨w2.heap.size, 0, none⟩ = some (.int .i64 kt) := cell_later c qk_0
  replace qk_1 : w5.cell? ⟨w2.heap.size, 1, none⟩ = some (.int .i64 st) := cell_later c qk_1
  replace qx_0 : w5.cell? ⟨w3.heap.size, 0, none⟩ = some (.bool xb) := cell_later c qx_0
  replace qx_1 : w5.cell? ⟨w3.heap.size, 1, none⟩ = some (.int .i64 xn) := cell_later c qx_1
  replace qx_2 : w5.cell? ⟨w3.heap.size, 2, none⟩ = some (.string xS) := cell_later c qx_2
  replace qy_0 : w5.cell? ⟨w4.heap.size, 0, none⟩ = some (.bool yb) := cell_later c qy_0
  replace qy_1 : w5.cell? ⟨w4.heap.size, 1, none⟩ = some (.int .i64 yn) := cell_later c qy_1
  replace qy_2 : w5.cell? ⟨w4.heap.size, 2, none⟩ = some (.string yS) := cell_later c qy_2
  clear la
  have la : w.heap.size < w5.heap.size := World.block_lt_of_cell? _ _ qa_0
  clear lb
  have lb : w.heap.size + 1 < w5.heap.size := World.block_lt_of_cell? _ _ qb_0
  clear lc
  have lc : w.heap.size + 1 + 1 < w5.heap.size := World.block_lt_of_cell? _ _ qc_0
  clear lt
  have lt : w.heap.size + 1 + 1 + 1 < w5.heap.size := World.block_lt_of_cell? _ _ qt_0
  clear lk
  have lk : w2.heap.size < w5.heap.size := World.block_lt_of_cell? _ _ qk_0
  clear lx
  have lx : w3.heap.size < w5.heap.size := World.block_lt_of_cell? _ _ qx_0
  have ly : w4.heap.size < w5.heap.size := World.block_lt_of_cell? _ _ qy_0
  replace C := Lib.hid (bj C.out c)
  clear c
  clear qa_0
  clear qa_1
  clear qa_2
  clear la
  clear qb_0
  clear qb_1
  clear qb_2
  clear lb
  clear qc_0
  clear qc_1
  clear qc_2
  clear lc
  clear qt_0
  clear lt
  replace qk_0 : (w5.alloc (.cells #[.bool zb, .int .i64 zn, .string zS] 25)).cell? ⟨w2.heap.size, 0, none⟩ = some (.int .i64 kt) := past1 _ qk_0
  replace qk_1 : (w5.alloc (.cells #[.bool zb, .int .i64 zn, .string zS] 25)).cell? ⟨w2.heap.size, 1, none⟩ = some (.int .i64 st) := past1 _ qk_1
  replace qx_0 : (w5.alloc (.cells #[.bool zb, .int .i64 zn, .string zS] 25)).cell? ⟨w3.heap.size, 0, none⟩ = some (.bool xb) := past1 _ qx_0
  replace qx_1 : (w5.alloc (.cells #[.bool zb, .int .i64 zn, .string zS] 25)).cell? ⟨w3.heap.size, 1, none⟩ = some (.int .i64 xn) := past1 _ qx_1
  replace qx_2 : (w5.alloc (.cells #[.bool zb, .int .i64 zn, .string zS] 25)).cell? ⟨w3.heap.size, 2, none⟩ = some (.string xS) := past1 _ qx_2
  replace qy_0 : (w5.alloc (.cells #[.bool zb, .int .i64 zn, .string zS] 25)).cell? ⟨w4.heap.size, 0, none⟩ = some (.bool yb) := past1 _ qy_0
  replace qy_1 : (w5.alloc (.cells #[.bool zb, .int .i64 zn, .string zS] 25)).cell? ⟨w4.heap.size, 1, none⟩ = some (.int .i64 yn) := past1 _ qy_1
  replace qy_2 : (w5.alloc (.cells #[.bool zb, .int .i64 zn, .string zS] 25)).cell? ⟨w4.heap.size, 2, none⟩ = some (.string yS) := past1 _ qy_2
  have qz_0 : (w5.alloc (.cells #[.bool zb, .int .i64 zn, .string zS] 25)).cell? ⟨w5.heap.size, 0, none⟩ = some (.bool zb) := World.cell?_alloc_at _ _ _ _ (rfl)
  have qz_1 : (w5.alloc (.cells #[.bool zb, .int .i64 zn, .string zS] 25)).cell? ⟨w5.heap.size, 1, none⟩ = some (.int .i64 zn) := World.cell?_alloc_at _ _ _ _ (rfl)
  have qz_2 : (w5.alloc (.cells #[.bool zb, .int .i64 zn, .string zS] 25)).cell? ⟨w5.heap.size, 2, none⟩ = some (.string zS) := World.cell?_alloc_at _ _ _ _ (rfl)
  replace C := Lib.hid (ba C.out (.cells #[.bool zb, .int .i64 zn, .string zS] 25))
  go_wp2_with fail
  refine (O1.out _).mono ?_
  rintro e w6 ⟨rfl, c⟩
  replace qk_0 : w6.cell? ⟨w2.heap.size, 0, none⟩ = some (.int .i64 kt) := cell_later c qk_0
  replace qk_1 : w6.cell? ⟨w2.heap.size, 1, none⟩ = some (.int .i64 st) := cell_later c qk_1
  replace qx_0 : w6.cell? ⟨w3.heap.size, 0, none⟩ = some (.bool xb) := cell_later c qx_0
  replace qx_1 : w6.cell? ⟨w3.heap.size, 1, none⟩ = some (.int .i64 xn) := cell_later c qx_1
  replace qx_2 : w6.cell? ⟨w3.heap.size, 2, none⟩ = some (.string xS) := cell_later c qx_2
  replace qy_0 : w6.cell? ⟨w4.heap.size, 0, none⟩ = some (.bool yb) := cell_later c qy_0
  replace qy_1 : w6.cell? ⟨w4.heap.size, 1, none⟩ = some (.int .i64 yn) := cell_later c qy_1
  replace qy_2 : w6.cell? ⟨w4.heap.size, 2, none⟩ = some (.string yS) := cell_later c qy_2
  replace qz_0 : w6.cell? ⟨w5.heap.size, 0, none⟩ = some (.bool zb) := cell_later c qz_0
  replace qz_1 : w6.cell? ⟨w5.heap.size, 1, none⟩ = some (.int .i64 zn) := cell_later c qz_1
  replace qz_2 : w6.cell? ⟨w5.heap.size, 2, none⟩ = some (.string zS) := cell_later c qz_2
  clear lk
  have lk : w2.heap.size < w6.heap.size := World.block_lt_of_cell? _ _ qk_0
  clear lx
  have lx : w3.heap.size < w6.heap.size := World.block_lt_of_cell? _ _ qx_0
  clear ly
  have ly : w4.heap.size < w6.heap.size := World.block_lt_of_cell? _ _ qy_0
  have lz : w5.heap.size < w6.heap.size := World.block_lt_of_cell? _ _ qz_0
  replace C := Lib.hid (bj C.out c)
  clear c
  go_wp2_with fail
  refine (O2.out _).mono ?_
  rintro e w7 ⟨rfl, c⟩
  replace qk_0 : w7.cell? ⟨w2.heap.size, 0, none⟩ = some (.int .i64 kt) := cell_later c qk_0
  replace qk_1 : w7.cell? ⟨w2.heap.size, 1, none⟩ = some (.int .i64 st) := cell_later c qk_1
  replace qx_0 : w7.cell? ⟨w3.heap.size, 0, none⟩ = some (.bool xb) := cell_later c qx_0
  replace qx_1 : w7.cell? ⟨w3.heap.size, 1, none⟩ = some (.int .i64 xn) := cell_later c qx_1
  replace qx_2 : w7.cell? ⟨w3.heap.size, 2, none⟩ = some (.string xS) := cell_later c qx_2
  replace qy_0 : w7.cell? ⟨w4.heap.size, 0, none⟩ = some (.bool yb) := cell_later c qy_0
  replace qy_1 : w7.cell? ⟨w4.heap.size, 1, none⟩ = some (.int .i64 yn) := cell_later c qy_1
  replace qy_2 : w7.cell? ⟨w4.heap.size, 2, none⟩ = some (.string yS) := cell_later c qy_2
  replace qz_0 : w7.cell? ⟨w5.heap.size, 0, none⟩ = some (.bool zb) := cell_later c qz_0
  replace qz_1 : w7.cell? ⟨w5.heap.size, 1, none⟩ = some (.int .i64 zn) := cell_later c qz_1
  replace qz_2 : w7.cell? ⟨w5.heap.size, 2, none⟩ = some (.string zS) := cell_later c qz_2
  clear lk
  have lk : w2.heap.size < w7.heap.size := World.block_lt_of_cell? _ _ qk_0
  clear lx
  have lx : w3.heap.size < w7.heap.size := World.block_lt_of_cell? _ _ qx_0
  clear ly
  have ly : w4.heap.size < w7.heap.size := World.block_lt_of_cell? _ _ qy_0
  clear lz
  have lz : w5.heap.size < w7.heap.size := World.block_lt_of_cell? _ _ qz_0
  replace C := Lib.hid (bj C.out c)
  clear c
  go_wp2_with fail
  refine (O3.out _).mono ?_
  rintro e w8 ⟨rfl, c⟩
  replace qk_0 : w8.cell? ⟨w2.heap.size, 0, none⟩ = some (.int .i64 kt) := cell_later c qk_0
  replace qk_1 : w8.cell? ⟨w2.heap.size, 1, none⟩ = some (.int .i64 st) := cell_later c qk_1
  replace qx_0 : w8.cell? ⟨w3.heap.size, 0, none⟩ = some (.bool xb) := cell_later c qx_0
  replace qx_1 : w8.cell? ⟨w3.heap.size, 1, none⟩ = some (.int .i64 xn) := cell_later c qx_1
  replace qx_2 : w8.cell? ⟨w3.heap.size, 2, none⟩ = some (.string xS) := cell_later c qx_2
  replace qy_0 : w8.cell? ⟨w4.heap.size, 0, none⟩ = some (.bool yb) := cell_later c qy_0
  replace qy_1 : w8.cell? ⟨w4.heap.size, 1, none⟩ = some (.int .i64 yn) := cell_later c qy_1
  replace qy_2 : w8.cell? ⟨w4.heap.size, 2, none⟩ = some (.string yS) := cell_later c qy_2
  replace qz_0 : w8.cell? ⟨w5.heap.size, 0, none⟩ = some (.bool zb) := cell_later c qz_0
  replace qz_1 : w8.cell? ⟨w5.heap.size, 1, none⟩ = some (.int .i64 zn) := cell_later c qz_1
  replace qz_2 : w8.cell? ⟨w5.heap.size, 2, none⟩ = some (.string zS) := cell_later c qz_2
  clear lk
  have lk : w2.heap.size < w8.heap.size := World.block_lt_of_cell? _ _ qk_0
  clear lx
  have lx : w3.heap.size < w8.heap.size := World.block_lt_of_cell? _ _ qx_0
  clear ly
  have ly : w4.heap.size < w8.heap.size := World.block_lt_of_cell? _ _ qy_0
  clear lz
  have lz : w5.heap.size < w8.heap.size := World.block_lt_of_cell? _ _ qz_0
  replace C := Lib.hid (bj C.out c)
  clear c
  clear qz_0
  clear qz_1
  clear qz_2
  clear lz
  go_wp2_with fail
  refine (O4.out _).mono ?_
  rintro e w9 ⟨rfl, c⟩
  replace qk_0 : w9.cell? ⟨w2.heap.size, 0, none⟩ = some (.int .i64 kt) := cell_later c qk_0
  replace qk_1 : w9.cell? ⟨w2.heap.size, 1, none⟩ = some (.int .i64 st) := cell_later c qk_1
  replace qx_0 : w9.cell? ⟨w3.heap.size, 0, none⟩ = some (.bool xb) := cell_later c qx_0
  replace qx_1 : w9.cell? ⟨w3.heap.size, 1, none⟩ = some (.int .i64 xn) := cell_later c qx_1
  replace qx_2 : w9.cell? ⟨w3.heap.size, 2, none⟩ = some (.string xS) := cell_later c qx_2
  replace qy_0 : w9.cell? ⟨w4.heap.size, 0, none⟩ = some (.bool yb) := cell_later c qy_0
  replace qy_1 : w9.cell? ⟨w4.heap.size, 1, none⟩ = some (.int .i64 yn) := cell_later c qy_1
  replace qy_2 : w9.cell? ⟨w4.heap.size, 2, none⟩ = some (.string yS) := cell_later c qy_2
  clear lk
  have lk : w2.heap.size < w9.heap.size := World.block_lt_of_cell? _ _ qk_0
  clear lx
  have lx : w3.heap.size < w9.heap.size := World.block_lt_of_cell? _ _ qx_0
  clear ly
  have ly : w4.heap.size < w9.heap.size := World.block_lt_of_cell? _ _ qy_0
  replace C := Lib.hid (bj C.out c)
  clear c
  rcases HP.out with ⟨rfl, rfl, rfl, rfl, rfl | rfl, p2 | ⟨p2, p3⟩⟩ | ⟨rfl, rfl, rfl, p2 | ⟨p2, p3⟩⟩ | ⟨rfl, rfl, rfl⟩ | ⟨rfl, rfl, rfl, e1, p2 | ⟨p2, p3⟩⟩ | ⟨rfl, rfl, rfl, e1⟩ | ⟨rfl, rfl, rfl, rfl, e1, p2 | ⟨p2, p3⟩⟩ | ⟨rfl, rfl, rfl, rfl, e1⟩
  all_goals clear HP
  all_goals
    go_wp2_with fail
    refine (O5.out _).mono ?_
    rintro e w9 ⟨rfl, c⟩
    replace C := Lib.hid (bj C.out c)
    clear c
    go_wp2_with fail
    go_ret
    exact ⟨by simp, C.out⟩
theorem cmpI_range (a b : Int) : cmpI a b = -1 ∨ cmpI a b = 0 ∨ cmpI a b = 1 := by
  unfold cmpI
  split
  · exact .inl rfl
  · split
    · exact .inr (.inl rfl)
    · exact .inr (.inr rfl)
theorem cmpS_range (a b : List UInt8) : cmpS a b = -1 ∨ cmpS a b = 0 ∨ cmpS a b = 1 := by
  unfold cmpS
  split
  · exact .inl rfl
  · split
    · exact .inr (.inl rfl)
    · exact .inr (.inr rfl)
theorem ordN (y : Va) (t : Ty) (h : y.null = false) : orderP nullVa y t = -1 ∧ orderP y nullVa t = 1 := ⟨by unfold orderP; rw [h]; rfl, by unfold orderP; rw [h]; rfl⟩
theorem order_range {x y : Va} {t : Ty} (hx : OfTy x t) (hy : OfTy y t) : orderP x y t = -1 ∨ orderP x y t = 0 ∨ orderP x y t = 1 := by
  rcases hx with rfl | hx
  · rcases hy with rfl | hy
    · exact .inr (.inl rfl)
    · exact .inl (ordN y t hy.1).1
  · rcases hy with rfl | hy
    · exact .inr (.inr (ordN x t hx.1).2)
    · rw [order_key hx hy]
      unfold keyP
      split
      · exact cmpI_range _ _
      · exact cmpS_range _ _
theorem ordP_of {a b c : Int} (h : ¬ 0 < a) (h2 : 0 < a ∨ 0 < b ∨ c ≤ 0) : OrdP b c := by
  by_cases k : 0 < b
  · exact .inl (decide_eq_true k)
  · exact .inr ⟨decide_eq_false k, decide_eq_true (by omega)⟩
theorem ordH_of {x y z : Va} {t : Ty} (hx : OfTy x t) (hy : OfTy y t) (hz : OfTy z t) : OrdH x.null y.null x.n y.n x.s y.s (orderP x y t) (orderP y z t) (orderP x z t) := by
  obtain ⟨l1, l2, l3, l4, l5⟩ := order_laws hx hy hz
  have hr := order_range hx hy
  by_cases he : x = y
  · have h0 := l3.2 he
    refine .inl ⟨h0, by rw [he], by rw [he], by rw [he], ?_, ordP_of (by omega) l2⟩
    cases x.null <;> simp
  have hne : ¬ orderP x y t = 0 := fun h => he (l3.1 h)
  rcases hx with rfl | hx
  · rcases hy with rfl | hy
    · exact absurd rfl he
    · have h1 := (ordN y t hy.1).1
      exact .inr (.inl ⟨h1, rfl, hy.1, ordP_of (by omega) l2⟩)
  · rcases hy with rfl | hy
    · exact .inr (.inr (.inl ⟨(ordN x t hx.1).2, hx.1, rfl⟩))
    · by_cases hn : x.n = y.n
      · have hs : (x.s.toList == y.s.toList) = false := by
          rw [ByteArray.toList_eq, ByteArray.toList_eq]
          exact beq_false_of_ne fun h => he (va_eq (by rw [hx.1, hy.1]) hn (ba_eq h))
        rcases hr with h | h | h
        · exact .inr (.inr (.inr (.inr (.inr (.inl ⟨h, hx.1, hy.1, hn.symm, hs, ordP_of (by omega) l2⟩)))))
        · exact absurd h hne
        · exact .inr (.inr (.inr (.inr (.inr (.inr ⟨h, hx.1, hy.1, hn.symm, hs⟩)))))
      · have hs : (x.n == y.n) = false := beq_false_of_ne hn
        rcases hr with h | h | h
        · exact .inr (.inr (.inr (.inl ⟨h, hx.1, hy.1, hs, ordP_of (by omega) l2⟩)))
        · exact absurd h hne
        · exact .inr (.inr (.inr (.inr (.inl ⟨h, hx.1, hy.1, hs⟩))))
theorem fit_ofTy (b : Bool) (n : Int) (S : ByteArray) {k : Int} (h0 : 0 ≤ k) (h9 : k ≤ 9) (t : Bool) : OfTy (fitV t b n S) (if t then ⟨3, 0⟩ else typed k) := by
  unfold fitV
  cases b
  · cases t
    · exact ofTy_num h0 h9 n
    · refine ofTy_bytes _ ?_
      rw [ByteArray.size_extract]
      omega
  · exact ofTy_null _
theorem fit_i64 (t b : Bool) (n : Int) (S : ByteArray) (hn : I64 n) : I64 (fitV t b n S).n := by
  unfold fitV
  cases b
  · cases t
    · exact hn
    · show I64 0
      unfold I64
      decide
  · show I64 0
    unfold I64
    decide
theorem orders_walk (ab bb cb : Bool) (an bn cn : Int) (aS bS cS : ByteArray) (sc : UInt8) (t : Bool) (ha : I64 an) (hb : I64 bn) (hc : I64 cn) (w : World) (hE : VEnv w) : Calls Tryd.prog 9 #[.agg #[.bool ab, .int .i64 an, .string aS], .agg #[.bool bb, .int .i64 bn, .string bS], .agg #[.bool cb, .int .i64 cn, .string cS], .int .u8 (sc.toNat : Int), .bool t] w (BoolS w true) := by
  have s0 : (0 : Int) ≤ ((sc.toNat % 10 : Nat) : Int) := Int.natCast_nonneg _
  have s9 : ((sc.toNat % 10 : Nat) : Int) ≤ 9 := by omega
  have n1 : NumK sc _ _ := fun W => number_any sc W
  have hx := fit_ofTy ab an aS s0 s9 t
  have hy := fit_ofTy bb bn bS s0 s9 t
  have hz := fit_ofTy cb cn cS s0 s9 t
  have ix := fit_i64 t ab an aS ha
  have iy := fit_i64 t bb bn bS hb
  have iz := fit_i64 t cb cn cS hc
  have l1 := (order_laws hx hy hz).1
  have l5 := (order_laws hx hy hz).2.2.2.2
  have hw : wrap64 (-orderP (fitV t bb bn bS) (fitV t ab an aS) (if t then ⟨3, 0⟩ else typed ((sc.toNat % 10 : Nat) : Int))) = orderP (fitV t ab an aS) (fitV t bb bn bS) (if t then ⟨3, 0⟩ else typed ((sc.toNat % 10 : Nat) : Int)) := by
    have hr := order_range hx hy
    rw [← l1]
    unfold wrap64
    omega
  have hp := ordH_of hx hy hz
  cases t
  · exact orders_false ab bb cb _ _ _ an bn cn _ _ _ _ _ _ _ _ _ aS bS cS _ _ _ sc n1 (fun B W h => fit_any false ab an aS B W h) (fun B W h => fit_any false bb bn bS B W h) (fun B W h => fit_any false cb cn cS B W h)
      (fun W => order_any _ _ (typed _) ix iy W _ rfl) (fun W => order_any _ _ (typed _) iy iz W _ rfl) (fun W => order_any _ _ (typed _) ix iz W _ rfl) (fun W => order_any _ _ (typed _) iy ix W _ rfl) (fun W => order_any _ _ (typed _) ix ix W _ l5) hw hp w hE
  · exact orders_true ab bb cb _ _ _ an bn cn _ _ _ _ _ _ _ _ _ aS bS cS _ _ _ sc n1 (fun B W h => fit_any true ab an aS B W h) (fun B W h => fit_any true bb bn bS B W h) (fun B W h => fit_any true cb cn cS B W h)
      (fun W => order_any _ _ ⟨3, 0⟩ ix iy W _ rfl) (fun W => order_any _ _ ⟨3, 0⟩ iy iz W _ rfl) (fun W => order_any _ _ ⟨3, 0⟩ ix iz W _ rfl) (fun W => order_any _ _ ⟨3, 0⟩ iy ix W _ rfl) (fun W => order_any _ _ ⟨3, 0⟩ ix ix W _ l5) hw hp w hE
end Go.Proofs.YtafnjkeljjeamaaDoor.Val
