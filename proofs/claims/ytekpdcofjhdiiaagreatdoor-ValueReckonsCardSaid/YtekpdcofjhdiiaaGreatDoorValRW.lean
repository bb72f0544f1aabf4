/-
  The law of what is reckoned: the walk. No condition beyond what each theorem names.
-/
import Derived.Test.YtekpdcofjhdiiaaGreatDoorValEx
import Derived.Test.YtekpdcofjhdiiaaGreatDoorValRG
import Derived.Test.YtekpdcofjhdiiaaGreatDoorValRK
import Derived.Test.YtekpdcofjhdiiaaGreatDoorValRO
import Derived.Test.YtekpdcofjhdiiaaGreatDoorValRT
import Derived.Test.YtekpdcofjhdiiaaGreatDoorRegTake
import Derived.Test.YtekpdcofjhdiiaaGreatDoorWf
namespace Go.Proofs.YtekpdcofjhdiiaaGreatDoor.Val
open Go.RowKit Go.Maps Go.Lib
set_option linter.unusedVariables false
set_option linter.unusedSimpArgs false
def CaK (f : FuncId) (args : Array Value) (v : Value) : Prop := ∀ W, Calls Tryz.prog f args W fun e w' => e = .returned v ∧ Below W.heap.size W w'
def CaE (f : FuncId) (args : Array Value) (v : Value) : Prop := ∀ W, VEnv W → Calls Tryz.prog f args W fun e w' => e = .returned v ∧ Below W.heap.size W w'
abbrev HeldK (w : World) (p q : Nat) (xn yn rn : Bool) (xv yv rv ka sa kb sb : Int) (xs ys rs : ByteArray) (W : World) : Prop :=
  W.cell? ⟨w.heap.size, 0, none⟩ = some (.bool xn) ∧ W.cell? ⟨w.heap.size, 1, none⟩ = some (.int .i64 xv) ∧ W.cell? ⟨w.heap.size, 2, none⟩ = some (.string xs)
  ∧ W.cell? ⟨w.heap.size + 1, 0, none⟩ = some (.bool yn) ∧ W.cell? ⟨w.heap.size + 1, 1, none⟩ = some (.int .i64 yv) ∧ W.cell? ⟨w.heap.size + 1, 2, none⟩ = some (.string ys)
  ∧ W.cell? ⟨w.heap.size + 1 + 1, 0, none⟩ = some (.int .i64 ka) ∧ W.cell? ⟨w.heap.size + 1 + 1, 1, none⟩ = some (.int .i64 sa)
  ∧ W.cell? ⟨p, 0, none⟩ = some (.bool rn) ∧ W.cell? ⟨p, 1, none⟩ = some (.int .i64 rv) ∧ W.cell? ⟨p, 2, none⟩ = some (.string rs)
  ∧ W.cell? ⟨q, 0, none⟩ = some (.bool rn) ∧ W.cell? ⟨q, 1, none⟩ = some (.int .i64 rv) ∧ W.cell? ⟨q, 2, none⟩ = some (.string rs) ∧ Below w.heap.size w W
theorem heldK_later {w : World} {p q : Nat} {xn yn rn : Bool} {xv yv rv ka sa kb sb : Int} {xs ys rs : ByteArray} {W W' : World} (c : Below W.heap.size W W') (h : HeldK w p q xn yn rn xv yv rv ka sa kb sb xs ys rs W) : HeldK w p q xn yn rn xv yv rv ka sa kb sb xs ys rs W' := by
  obtain ⟨h0, h1, h2, h3, h4, h5, h6, h7, h8, h9, h10, h11, h12, h13, h14⟩ := h
  exact ⟨cell_later c h0, cell_later c h1, cell_later c h2, cell_later c h3, cell_later c h4, cell_later c h5, cell_later c h6, cell_later c h7, cell_later c h8, cell_later c h9, cell_later c h10, cell_later c h11, cell_later c h12, cell_later c h13, h14.trans (c.mono h14.size)⟩

set_option maxRecDepth 100000 in
set_option maxHeartbeats 8000000 in
theorem reckons_core (op : Int) (xn yn rn : Bool) (xv yv rv ka sa kb sb : Int) (xs ys rs : ByteArray) (e1 c1 c2 : Int) (ok good nn na no : Bool) (vn va vo : Int) (sn sA so S : ByteArray) (w : World) (hE : VEnv w)
    (ha : CaK 5 #[.int .u8 op, .agg #[.bool xn, .int .i64 xv, .string xs], .agg #[.bool yn, .int .i64 yv, .string ys], .agg #[.int .i64 ka, .int .i64 sa], .agg #[.int .i64 kb, .int .i64 sb]] (.tuple #[.agg #[.bool rn, .int .i64 rv, .string rs], .int .i64 e1]))
    (hc : CaK 7 #[.agg #[.bool xn, .int .i64 xv, .string xs], .agg #[.bool yn, .int .i64 yv, .string ys], .agg #[.int .i64 ka, .int .i64 sa], .agg #[.int .i64 kb, .int .i64 sb]] (.tuple #[.int .i64 c1, .bool ok]))
    (ht : CaE 9 #[.agg #[.bool xn, .int .i64 xv, .string xs], .agg #[.int .i64 ka, .int .i64 sa]] (.tuple #[.string S, .bool good]))
    (ho : CaK 11 #[.agg #[.bool xn, .int .i64 xv, .string xs], .agg #[.bool yn, .int .i64 yv, .string ys], .agg #[.int .i64 ka, .int .i64 sa]] (.int .i64 c2))
    (hn : CaK 13 #[.agg #[.bool xn, .int .i64 xv, .string xs]] (.agg #[.bool nn, .int .i64 vn, .string sn]))
    (hd : CaK 15 #[.agg #[.bool xn, .int .i64 xv, .string xs], .agg #[.bool yn, .int .i64 yv, .string ys]] (.agg #[.bool na, .int .i64 va, .string sA]))
    (hr : CaK 17 #[.agg #[.bool xn, .int .i64 xv, .string xs], .agg #[.bool yn, .int .i64 yv, .string ys]] (.agg #[.bool no, .int .i64 vo, .string so]))
    (har : CaK 6 #[.int .u8 op, .agg #[.bool xn, .int .i64 xv, .string xs], .agg #[.bool yn, .int .i64 yv, .string ys], .agg #[.int .i64 ka, .int .i64 sa], .agg #[.int .i64 kb, .int .i64 sb]] (.tuple #[.agg #[.bool rn, .int .i64 rv, .string rs], .int .i64 e1]))
    (hcr : CaK 8 #[.agg #[.bool xn, .int .i64 xv, .string xs], .agg #[.bool yn, .int .i64 yv, .string ys], .agg #[.int .i64 ka, .int .i64 sa], .agg #[.int .i64 kb, .int .i64 sb]] (.tuple #[.int .i64 c1, .bool ok]))
    (htr : CaE 10 #[.agg #[.bool xn, .int .i64 xv, .string xs], .agg #[.int .i64 ka, .int .i64 sa]] (.tuple #[.string S, .bool good]))
    (hor : CaK 12 #[.agg #[.bool xn, .int .i64 xv, .string xs], .agg #[.bool yn, .int .i64 yv, .string ys], .agg #[.int .i64 ka, .int .i64 sa]] (.int .i64 c2))
    (hnr : CaK 14 #[.agg #[.bool xn, .int .i64 xv, .string xs]] (.agg #[.bool nn, .int .i64 vn, .string sn]))
    (hdr : CaK 16 #[.agg #[.bool xn, .int .i64 xv, .string xs], .agg #[.bool yn, .int .i64 yv, .string ys]] (.agg #[.bool na, .int .i64 va, .string sA]))
    (hrr : CaK 18 #[.agg #[.bool xn, .int .i64 xv, .string xs], .agg #[.bool yn, .int .i64 yv, .string ys]] (.agg #[.bool no, .int .i64 vo, .string so]))
    : Calls Tryz.prog 3 #[.int .u8 op, .agg #[.bool xn, .int .i64 xv, .string xs], .agg #[.bool yn, .int .i64 yv, .string ys], .agg #[.int .i64 ka, .int .i64 sa], .agg #[.int .i64 kb, .int .i64 sb]] w (BoolS w true) := by
  have HE := Lib.hid hE
  have HA := Lib.hid ha
  have HC := Lib.hid hc
  have HT := Lib.hid ht
  have HO := Lib.hid ho
  have HN := Lib.hid hn
  have HD := Lib.hid hd
  have HR := Lib.hid hr
  have HAR := Lib.hid har
  have HCR := Lib.hid hcr
  have HTR := Lib.hid htr
  have HOR := Lib.hid hor
  have HNR := Lib.hid hnr
  have HDR := Lib.hid hdr
  have HRR := Lib.hid hrr
  clear hE ha hc ht ho hn hd hr har hcr htr hor hnr hdr hrr
  have C := Lib.hid (below0 w)
  have qx_0 : (w.alloc (.cells #[.bool xn, .int .i64 xv, .string xs] 23)).cell? ⟨w.heap.size, 0, none⟩ = some (.bool xn) := World.cell?_alloc_at _ _ _ _ (rfl)
  have qx_1 : (w.alloc (.cells #[.bool xn, .int .i64 xv, .string xs] 23)).cell? ⟨w.heap.size, 1, none⟩ = some (.int .i64 xv) := World.cell?_alloc_at _ _ _ _ (rfl)
  have qx_2 : (w.alloc (.cells #[.bool xn, .int .i64 xv, .string xs] 23)).cell? ⟨w.heap.size, 2, none⟩ = some (.string xs) := World.cell?_alloc_at _ _ _ _ (rfl)
  replace C := Lib.hid (ba C.out (.cells #[.bool xn, .int .i64 xv, .string xs] 23))
  replace qx_0 : ((w.alloc (.cells #[.bool xn, .int .i64 xv, .string xs] 23)).alloc (.cells #[.bool yn, .int .i64 yv, .string ys] 23)).cell? ⟨w.heap.size, 0, none⟩ = some (.bool xn) := past1 _ qx_0
  replace qx_1 : ((w.alloc (.cells #[.bool xn, .int .i64 xv, .string xs] 23)).alloc (.cells #[.bool yn, .int .i64 yv, .string ys] 23)).cell? ⟨w.heap.size, 1, none⟩ = some (.int .i64 xv) := past1 _ qx_1
  replace qx_2 : ((w.alloc (.cells #[.bool xn, .int .i64 xv, .string xs] 23)).alloc (.cells #[.bool yn, .int .i64 yv, .string ys] 23)).cell? ⟨w.heap.size, 2, none⟩ = some (.string xs) := past1 _ qx_2
  have qy_0 : ((w.alloc (.cells #[.bool xn, .int .i64 xv, .string xs] 23)).alloc (.cells #[.bool yn, .int .i64 yv, .string ys] 23)).cell? ⟨w.heap.size + 1, 0, none⟩ = some (.bool yn) := World.cell?_alloc_at _ _ _ _ (by simp)
  have qy_1 : ((w.alloc (.cells #[.bool xn, .int .i64 xv, .string xs] 23)).alloc (.cells #[.bool yn, .int .i64 yv, .string ys] 23)).cell? ⟨w.heap.size + 1, 1, none⟩ = some (.int .i64 yv) := World.cell?_alloc_at _ _ _ _ (by simp)
  have qy_2 : ((w.alloc (.cells #[.bool xn, .int .i64 xv, .string xs] 23)).alloc (.cells #[.bool yn, .int .i64 yv, .string ys] 23)).cell? ⟨w.heap.size + 1, 2, none⟩ = some (.string ys) := World.cell?_alloc_at _ _ _ _ (by simp)
  replace C := Lib.hid (ba C.out (.cells #[.bool yn, .int .i64 yv, .string ys] 23))
  replace qx_0 : (((w.alloc (.cells #[.bool xn, .int .i64 xv, .string xs] 23)).alloc (.cells #[.bool yn, .int .i64 yv, .string ys] 23)).alloc (.cells #[.int .i64 ka, .int .i64 sa] 25)).cell? ⟨w.heap.size, 0, none⟩ = some (.bool xn) := past1 _ qx_0
  replace qx_1 : (((w.alloc (.cells #[.bool xn, .int .i64 xv, .string xs] 23)).alloc (.cells #[.bool yn, .int .i64 yv, .string ys] 23)).alloc (.cells #[.int .i64 ka, .int .i64 sa] 25)).cell? ⟨w.heap.size, 1, none⟩ = some (.int .i64 xv) := past1 _ qx_1
  replace qx_2 : (((w.alloc (.cells #[.bool xn, .int .i64 xv, .string xs] 23)).alloc (.cells #[.bool yn, .int .i64 yv, .string ys] 23)).alloc (.cells #[.int .i64 ka, .int .i64 sa] 25)).cell? ⟨w.heap.size, 2, none⟩ = some (.string xs) := past1 _ qx_2
  replace qy_0 : (((w.alloc (.cells #[.bool xn, .int .i64 xv, .string xs] 23)).alloc (.cells #[.bool yn, .int .i64 yv, .string ys] 23)).alloc (.cells #[.int .i64 ka, .int .i64 sa] 25)).cell? ⟨w.heap.size + 1, 0, none⟩ = some (.bool yn) := past1 _ qy_0
  replace qy_1 : (((w.alloc (.cells #[.bool xn, .int .i64 xv, .string xs] 23)).alloc (.cells #[.bool yn, .int .i64 yv, .string ys] 23)).alloc (.cells #[.int .i64 ka, .int .i64 sa] 25)).cell? ⟨w.heap.size + 1, 1, none⟩ = some (.int .i64 yv) := past1 _ qy_1
  replace qy_2 : (((w.alloc (.cells #[.bool xn, .int .i64 xv, .string xs] 23)).alloc (.cells #[.bool yn, .int .i64 yv, .string ys] 23)).alloc (.cells #[.int .i64 ka, .int .i64 sa] 25)).cell? ⟨w.heap.size + 1, 2, none⟩ = some (.string ys) := past1 _ qy_2
  have qa_0 : (((w.alloc (.cells #[.bool xn, .int .i64 xv, .string xs] 23)).alloc (.cells #[.bool yn, .int .i64 yv, .string ys] 23)).alloc (.cells #[.int .i64 ka, .int .i64 sa] 25)).cell? ⟨w.heap.size + 1 + 1, 0, none⟩ = some (.int .i64 ka) := World.cell?_alloc_at _ _ _ _ (by simp)
  have qa_1 : (((w.alloc (.cells #[.bool xn, .int .i64 xv, .string xs] 23)).alloc (.cells #[.bool yn, .int .i64 yv, .string ys] 23)).alloc (.cells #[.int .i64 ka, .int .i64 sa] 25)).cell? ⟨w.heap.size + 1 + 1, 1, none⟩ = some (.int .i64 sa) := World.cell?_alloc_at _ _ _ _ (by simp)
  replace C := Lib.hid (ba C.out (.cells #[.int .i64 ka, .int .i64 sa] 25))
  replace qx_0 : ((((w.alloc (.cells #[.bool xn, .int .i64 xv, .string xs] 23)).alloc (.cells #[.bool yn, .int .i64 yv, .string ys] 23)).alloc (.cells #[.int .i64 ka, .int .i64 sa] 25)).alloc (.cells #[.int .i64 kb, .int .i64 sb] 25)).cell? ⟨w.heap.size, 0, none⟩ = some (.bool xn) := past1 _ qx_0
  replace qx_1 : ((((w.alloc (.cells #[.bool xn, .int .i64 xv, .string xs] 23)).alloc (.cells #[.bool yn, .int .i64 yv, .string ys] 23)).alloc (.cells #[.int .i64 ka, .int .i64 sa] 25)).alloc (.cells #[.int .i64 kb, .int .i64 sb] 25)).cell? ⟨w.heap.size, 1, none⟩ = some (.int .i64 xv) := past1 _ qx_1
  replace qx_2 : ((((w.alloc (.cells #[.bool xn, .int .i64 xv, .string xs] 23)).alloc (.cells #[.bool yn, .int .i64 yv, .string ys] 23)).alloc (.cells #[.int .i64 ka, .int .i64 sa] 25)).alloc (.cells #[.int .i64 kb, .int .i64 sb] 25)).cell? ⟨w.heap.size, 2, none⟩ = some (.string xs) := past1 _ qx_2
  replace qy_0 : ((((w.alloc (.cells #[.bool xn, .int .i64 xv, .string xs] 23)).alloc (.cells #[.bool yn, .int .i64 yv, .string ys] 23)).alloc (.cells #[.int .i64 ka, .int .i64 sa] 25)).alloc (.cells #[.int .i64 kb, .int .i64 sb] 25)).cell? ⟨w.heap.size + 1, 0, none⟩ = some (.bool yn) := past1 _ qy_0
  replace qy_1 : ((((w.alloc (.cells #[.bool xn, .int .i64 xv, .string xs] 23)).alloc (.cells #[.bool yn, .int .i64 yv, .string ys] 23)).alloc (.cells #[.int .i64 ka, .int .i64 sa] 25)).alloc (.cells #[.int .i64 kb, .int .i64 sb] 25)).cell? ⟨w.heap.size + 1, 1, none⟩ = some (.int .i64 yv) := past1 _ qy_1
  replace qy_2 : ((((w.alloc (.cells #[.bool xn, .int .i64 xv, .string xs] 23)).alloc (.cells #[.bool yn, .int .i64 yv, .string ys] 23)).alloc (.cells #[.int .i64 ka, .int .i64 sa] 25)).alloc (.cells #[.int .i64 kb, .int .i64 sb] 25)).cell? ⟨w.heap.size + 1, 2, none⟩ = some (.string ys) := past1 _ qy_2
  replace qa_0 : ((((w.alloc (.cells #[.bool xn, .int .i64 xv, .string xs] 23)).alloc (.cells #[.bool yn, .int .i64 yv, .string ys] 23)).alloc (.cells #[.int .i64 ka, .int .i64 sa] 25)).alloc (.cells #[.int .i64 kb, .int .i64 sb] 25)).cell? ⟨w.heap.size + 1 + 1, 0, none⟩ = some (.int .i64 ka) := past1 _ qa_0
  replace qa_1 : ((((w.alloc (.cells #[.bool xn, .int .i64 xv, .string xs] 23)).alloc (.cells #[.bool yn, .int .i64 yv, .string ys] 23)).alloc (.cells #[.int .i64 ka, .int .i64 sa] 25)).alloc (.cells #[.int .i64 kb, .int .i64 sb] 25)).cell? ⟨w.heap.size + 1 + 1, 1, none⟩ = some (.int .i64 sa) := past1 _ qa_1
  have qb_0 : ((((w.alloc (.cells #[.bool xn, .int .i64 xv, .string xs] 23)).alloc (.cells #[.bool yn, .int .i64 yv, .string ys] 23)).alloc (.cells #[.int .i64 ka, .int .i64 sa] 25)).alloc (.cells #[.int .i64 kb, .int .i64 sb] 25)).cell? ⟨w.heap.size + 1 + 1 + 1, 0, none⟩ = some (.int .i64 kb) := World.cell?_alloc_at _ _ _ _ (by simp)
  have qb_1 : ((((w.alloc (.cells #[.bool xn, .int .i64 xv, .string xs] 23)).alloc (.cells #[.bool yn, .int .i64 yv, .string ys] 23)).alloc (.cells #[.int .i64 ka, .int .i64 sa] 25)).alloc (.cells #[.int .i64 kb, .int .i64 sb] 25)).cell? ⟨w.heap.size + 1 + 1 + 1, 1, none⟩ = some (.int .i64 sb) := World.cell?_alloc_at _ _ _ _ (by simp)
  replace C := Lib.hid (ba C.out (.cells #[.int .i64 kb, .int .i64 sb] 25))
  go_enter Tryz.func3, Tryz.ntmps3
  go_wp2_with fail
  refine (examples10 _ (HE.out.later C.out)).mono ?_
  rintro e w1 ⟨rfl, c⟩
  replace qx_0 : w1.cell? ⟨w.heap.size, 0, none⟩ = some (.bool xn) := cell_later c qx_0
  replace qx_1 : w1.cell? ⟨w.heap.size, 1, none⟩ = some (.int .i64 xv) := cell_later c qx_1
  replace qx_2 : w1.cell? ⟨w.heap.size, 2, none⟩ = some (.string xs) := cell_later c qx_2
  replace qy_0 : w1.cell? ⟨w.heap.size + 1, 0, none⟩ = some (.bool yn) := cell_later c qy_0
  replace qy_1 : w1.cell? ⟨w.heap.size + 1, 1, none⟩ = some (.int .i64 yv) := cell_later c qy_1
  replace qy_2 : w1.cell? ⟨w.heap.size + 1, 2, none⟩ = some (.string ys) := cell_later c qy_2
  replace qa_0 : w1.cell? ⟨w.heap.size + 1 + 1, 0, none⟩ = some (.int .i64 ka) := cell_later c qa_0
  replace qa_1 : w1.cell? ⟨w.heap.size + 1 + 1, 1, none⟩ = some (.int .i64 sa) := cell_later c qa_1
  replace qb_0 : w1.cell? ⟨w.heap.size + 1 + 1 + 1, 0, none⟩ = some (.int .i64 kb) := cell_later c qb_0
  replace qb_1 : w1.cell? ⟨w.heap.size + 1 + 1 + 1, 1, none⟩ = some (.int .i64 sb) := cell_later c qb_1
  have lx : w.heap.size < w1.heap.size := World.block_lt_of_cell? _ _ qx_0
  have ly : w.heap.size + 1 < w1.heap.size := World.block_lt_of_cell? _ _ qy_0
  have la : w.heap.size + 1 + 1 < w1.heap.size := World.block_lt_of_cell? _ _ qa_0
  have lb : w.heap.size + 1 + 1 + 1 < w1.heap.size := World.block_lt_of_cell? _ _ qb_0
  replace C := Lib.hid (bj C.out c)
  clear c
  go_wp2_with fail
  refine (HA.out _).mono ?_
  rintro e w2 ⟨rfl, c⟩
  replace qx_0 : w2.cell? ⟨w.heap.size, 0, none⟩ = some (.bool xn) := cell_later c qx_0
  replace qx_1 : w2.cell? ⟨w.heap.size, 1, none⟩ = some (.int .i64 xv) := cell_later c qx_1
  replace qx_2 : w2.cell? ⟨w.heap.size, 2, none⟩ = some (.string xs) := cell_later c qx_2
  replace qy_0 : w2.cell? ⟨w.heap.size + 1, 0, none⟩ = some (.bool yn) := cell_later c qy_0
  replace qy_1 : w2.cell? ⟨w.heap.size + 1, 1, none⟩ = some (.int .i64 yv) := cell_later c qy_1
  replace qy_2 : w2.cell? ⟨w.heap.size + 1, 2, none⟩ = some (.string ys) := cell_later c qy_2
  replace qa_0 : w2.cell? ⟨w.heap.size + 1 + 1, 0, none⟩ = some (.int .i64 ka) := cell_later c qa_0
  replace qa_1 : w2.cell? ⟨w.heap.size + 1 + 1, 1, none⟩ = some (.int .i64 sa) := cell_later c qa_1
  replace qb_0 : w2.cell? ⟨w.heap.size + 1 + 1 + 1, 0, none⟩ = some (.int .i64 kb) := cell_later c qb_0
  replace qb_1 : w2.cell? ⟨w.heap.size + 1 + 1 + 1, 1, none⟩ = some (.int .i64 sb) := cell_later c qb_1
  clear lx
  have lx : w.heap.size < w2.heap.size := World.block_lt_of_cell? _ _ qx_0
  clear ly
  have ly : w.heap.size + 1 < w2.heap.size := World.block_lt_of_cell? _ _ qy_0
  clear la
  have la : w.heap.size + 1 + 1 < w2.heap.size := World.block_lt_of_cell? _ _ qa_0
  clear lb
  have lb : w.heap.size + 1 + 1 + 1 < w2.heap.size := World.block_lt_of_cell? _ _ qb_0
  replace C := Lib.hid (bj C.out c)
  clear c
  replace qx_0 : (w2.alloc (.cells #[.bool rn, .int .i64 rv, .string rs] 23)).cell? ⟨w.heap.size, 0, none⟩ = some (.bool xn) := past1 _ qx_0
  replace qx_1 : (w2.alloc (.cells #[.bool rn, .int .i64 rv, .string rs] 23)).cell? ⟨w.heap.size, 1, none⟩ = some (.int .i64 xv) := past1 _ qx_1
  replace qx_2 : (w2.alloc (.cells #[.bool rn, .int .i64 rv, .string rs] 23)).cell? ⟨w.heap.size, 2, none⟩ = some (.string xs) := past1 _ qx_2
  replace qy_0 : (w2.alloc (.cells #[.bool rn, .int .i64 rv, .string rs] 23)).cell? ⟨w.heap.size + 1, 0, none⟩ = some (.bool yn) := past1 _ qy_0
  replace qy_1 : (w2.alloc (.cells #[.bool rn, .int .i64 rv, .string rs] 23)).cell? ⟨w.heap.size + 1, 1, none⟩ = some (.int .i64 yv) := past1 _ qy_1
  replace qy_2 : (w2.alloc (.cells #[.bool rn, .int .i64 rv, .string rs] 23)).cell? ⟨w.heap.size + 1, 2, none⟩ = some (.string ys) := past1 _ qy_2
  replace qa_0 : (w2.alloc (.cells #[.bool rn, .int .i64 rv, .string rs] 23)).cell? ⟨w.heap.size + 1 + 1, 0, none⟩ = some (.int .i64 ka) := past1 _ qa_0
  replace qa_1 : (w2.alloc (.cells #[.bool rn, .int .i64 rv, .string rs] 23)).cell? ⟨w.heap.size + 1 + 1, 1, none⟩ = some (.int .i64 sa) := past1 _ qa_1
  replace qb_0 : (w2.alloc (.cells #[.bool rn, .int .i64 rv, .string rs] 23)).cell? ⟨w.heap.size + 1 + 1 + 1, 0, none⟩ = some (.int .i64 kb) := past1 _ qb_0
  replace qb_1 : (w2.alloc (.cells #[.bool rn, .int .i64 rv, .string rs] 23)).cell? ⟨w.heap.size + 1 + 1 + 1, 1, none⟩ = some (.int .i64 sb) := past1 _ qb_1
  have qp_0 : (w2.alloc (.cells #[.bool rn, .int .i64 rv, .string rs] 23)).cell? ⟨w2.heap.size, 0, none⟩ = some (.bool rn) := World.cell?_alloc_at _ _ _ _ (rfl)
  have qp_1 : (w2.alloc (.cells #[.bool rn, .int .i64 rv, .string rs] 23)).cell? ⟨w2.heap.size, 1, none⟩ = some (.int .i64 rv) := World.cell?_alloc_at _ _ _ _ (rfl)
  have qp_2 : (w2.alloc (.cells #[.bool rn, .int .i64 rv, .string rs] 23)).cell? ⟨w2.heap.size, 2, none⟩ = some (.string rs) := World.cell?_alloc_at _ _ _ _ (rfl)
  replace C := Lib.hid (ba C.out (.cells #[.bool rn, .int .i64 rv, .string rs] 23))
  go_wp2_with fail
  refine (HAR.out _).mono ?_
  rintro e w3 ⟨rfl, c⟩
  replace qx_0 : w3.cell? ⟨w.heap.size, 0, none⟩ = some (.bool xn) := cell_later c qx_0
  replace qx_1 : w3.cell? ⟨w.heap.size, 1, none⟩ = some (.int .i64 xv) := cell_later c qx_1
  replace qx_2 : w3.cell? ⟨w.heap.size, 2, none⟩ = some (.string xs) := cell_later c qx_2
  replace qy_0 : w3.cell? ⟨w.heap.size + 1, 0, none⟩ = some (.bool yn) := cell_later c qy_0
  replace qy_1 : w3.cell? ⟨w.heap.size + 1, 1, none⟩ = some (.int .i64 yv) := cell_later c qy_1
  replace qy_2 : w3.cell? ⟨w.heap.size + 1, 2, none⟩ = some (.string ys) := cell_later c qy_2
  replace qa_0 : w3.cell? ⟨w.heap.size + 1 + 1, 0, none⟩ = some (.int .i64 ka) := cell_later c qa_0
  replace qa_1 : w3.cell? ⟨w.heap.size + 1 + 1, 1, none⟩ = some (.int .i64 sa) := cell_later c qa_1
  replace qb_0 : w3.cell? ⟨w.heap.size + 1 + 1 + 1, 0, none⟩ = some (.int .i64 kb) := cell_later c qb_0
  replace qb_1 : w3.cell? ⟨w.heap.size + 1 + 1 + 1, 1, none⟩ = some (.int .i64 sb) := cell_later c qb_1
  replace qp_0 : w3.cell? ⟨w2.heap.size, 0, none⟩ = some (.bool rn) := cell_later c qp_0
  replace qp_1 : w3.cell? ⟨w2.heap.size, 1, none⟩ = some (.int .i64 rv) := cell_later c qp_1
  replace qp_2 : w3.cell? ⟨w2.heap.size, 2, none⟩ = some (.string rs) := cell_later c qp_2
  clear lx
  have lx : w.heap.size < w3.heap.size := World.block_lt_of_cell? _ _ qx_0
  clear ly
  have ly : w.heap.size + 1 < w3.heap.size := World.block_lt_of_cell? _ _ qy_0
  clear la
  have la : w.heap.size + 1 + 1 < w3.heap.size := World.block_lt_of_cell? _ _ qa_0
  clear lb
  have lb : w.heap.size + 1 + 1 + 1 < w3.heap.size := World.block_lt_of_cell? _ _ qb_0
  have lp : w2.heap.size < w3.heap.size := World.block_lt_of_cell? _ _ qp_0
  replace C := Lib.hid (bj C.out c)
  clear c
  replace qx_0 : (w3.alloc (.cells #[.bool rn, .int .i64 rv, .string rs] 23)).cell? ⟨w.heap.size, 0, none⟩ = some (.bool xn) := past1 _ qx_0
  replace qx_1 : (w3.alloc (.cells #[.bool rn, .int .i64 rv, .string rs] 23)).cell? ⟨w.heap.size, 1, none⟩ = some (.int .i64 xv) := past1 _ qx_1
  replace qx_2 : (w3.alloc (.cells #[.bool rn, .int .i64 rv, .string rs] 23)).cell? ⟨w.heap.size, 2, none⟩ = some (.string xs) := past1 _ qx_2
  replace qy_0 : (w3.alloc (.cells #[.bool rn, .int .i64 rv, .string rs] 23)).cell? ⟨w.heap.size + 1, 0, none⟩ = some (.bool yn) := past1 _ qy_0
  replace qy_1 : (w3.alloc (.cells #[.bool rn, .int .i64 rv, .string rs] 23)).cell? ⟨w.heap.size + 1, 1, none⟩ = some (.int .i64 yv) := past1 _ qy_1
  replace qy_2 : (w3.alloc (.cells #[.bool rn, .int .i64 rv, .string rs] 23)).cell? ⟨w.heap.size + 1, 2, none⟩ = some (.string ys) := past1 _ qy_2
  replace qa_0 : (w3.alloc (.cells #[.bool rn, .int .i64 rv, .string rs] 23)).cell? ⟨w.heap.size + 1 + 1, 0, none⟩ = some (.int .i64 ka) := past1 _ qa_0
  replace qa_1 : (w3.alloc (.cells #[.bool rn, .int .i64 rv, .string rs] 23)).cell? ⟨w.heap.size + 1 + 1, 1, none⟩ = some (.int .i64 sa) := past1 _ qa_1
  replace qb_0 : (w3.alloc (.cells #[.bool rn, .int .i64 rv, .string rs] 23)).cell? ⟨w.heap.size + 1 + 1 + 1, 0, none⟩ = some (.int .i64 kb) := past1 _ qb_0
  replace qb_1 : (w3.alloc (.cells #[.bool rn, .int .i64 rv, .string rs] 23)).cell? ⟨w.heap.size + 1 + 1 + 1, 1, none⟩ = some (.int .i64 sb) := past1 _ qb_1
  replace qp_0 : (w3.alloc (.cells #[.bool rn, .int .i64 rv, .string rs] 23)).cell? ⟨w2.heap.size, 0, none⟩ = some (.bool rn) := past1 _ qp_0
  replace qp_1 : (w3.alloc (.cells #[.bool rn, .int .i64 rv, .string rs] 23)).cell? ⟨w2.heap.size, 1, none⟩ = some (.int .i64 rv) := past1 _ qp_1
  replace qp_2 : (w3.alloc (.cells #[.bool rn, .int .i64 rv, .string rs] 23)).cell? ⟨w2.heap.size, 2, none⟩ = some (.string rs) := past1 _ qp_2
  have qq_0 : (w3.alloc (.cells #[.bool rn, .int .i64 rv, .string rs] 23)).cell? ⟨w3.heap.size, 0, none⟩ = some (.bool rn) := World.cell?_alloc_at _ _ _ _ (rfl)
  have qq_1 : (w3.alloc (.cells #[.bool rn, .int .i64 rv, .string rs] 23)).cell? ⟨w3.heap.size, 1, none⟩ = some (.int .i64 rv) := World.cell?_alloc_at _ _ _ _ (rfl)
  have qq_2 : (w3.alloc (.cells #[.bool rn, .int .i64 rv, .string rs] 23)).cell? ⟨w3.heap.size, 2, none⟩ = some (.string rs) := World.cell?_alloc_at _ _ _ _ (rfl)
  replace C := Lib.hid (ba C.out (.cells #[.bool rn, .int .i64 rv, .string rs] 23))
  go_wp2_with fail
  refine (HC.out _).mono ?_
  rintro e w4 ⟨rfl, c⟩
  replace qx_0 : w4.cell? ⟨w.heap.size, 0, none⟩ = some (.bool xn) := cell_later c qx_0
  replace qx_1 : w4.cell? ⟨w.heap.size, 1, none⟩ = some (.int .i64 xv) := cell_later c qx_1
  replace qx_2 : w4.cell? ⟨w.heap.size, 2, none⟩ = some (.string xs) := cell_later c qx_2
  replace qy_0 : w4.cell? ⟨w.heap.size + 1, 0, none⟩ = some (.bool yn) := cell_later c qy_0
  replace qy_1 : w4.cell? ⟨w.heap.size + 1, 1, none⟩ = some (.int .i64 yv) := cell_later c qy_1
  replace qy_2 : w4.cell? ⟨w.heap.size + 1, 2, none⟩ = some (.string ys) := cell_later c qy_2
  replace qa_0 : w4.cell? ⟨w.heap.size + 1 + 1, 0, none⟩ = some (.int .i64 ka) := cell_later c qa_0
  replace qa_1 : w4.cell? ⟨w.heap.size + 1 + 1, 1, none⟩ = some (.int .i64 sa) := cell_later c qa_1
  replace qb_0 : w4.cell? ⟨w.heap.size + 1 + 1 + 1, 0, none⟩ = some (.int .i64 kb) := cell_later c qb_0
  replace qb_1 : w4.cell? ⟨w.heap.size + 1 + 1 + 1, 1, none⟩ = some (.int .i64 sb) := cell_later c qb_1
  replace qp_0 : w4.cell? ⟨w2.heap.size, 0, none⟩ = some (.bool rn) := cell_later c qp_0
  replace qp_1 : w4.cell? ⟨w2.heap.size, 1, none⟩ = some (.int .i64 rv) := cell_later c qp_1
  replace qp_2 : w4.cell? ⟨w2.heap.size, 2, none⟩ = some (.string rs) := cell_later c qp_2
  replace qq_0 : w4.cell? ⟨w3.heap.size, 0, none⟩ = some (.bool rn) := cell_later c qq_0
  replace qq_1 : w4.cell? ⟨w3.heap.size, 1, none⟩ = some (.int .i64 rv) := cell_later c qq_1
  replace qq_2 : w4.cell? ⟨w3.heap.size, 2, none⟩ = some (.string rs) := cell_later c qq_2
  clear lx
  have lx : w.heap.size < w4.heap.size := World.block_lt_of_cell? _ _ qx_0
  clear ly
  have ly : w.heap.size + 1 < w4.heap.size := World.block_lt_of_cell? _ _ qy_0
  clear la
  have la : w.heap.size + 1 + 1 < w4.heap.size := World.block_lt_of_cell? _ _ qa_0
  clear lb
  have lb : w.heap.size + 1 + 1 + 1 < w4.heap.size := World.block_lt_of_cell? _ _ qb_0
  clear lp
  have lp : w2.heap.size < w4.heap.size := World.block_lt_of_cell? _ _ qp_0
  have lq : w3.heap.size < w4.heap.size := World.block_lt_of_cell? _ _ qq_0
  replace C := Lib.hid (bj C.out c)
  clear c
  go_wp2_with fail
  refine (HCR.out _).mono ?_
  rintro e w5 ⟨rfl, c⟩
  replace qx_0 : w5.cell? ⟨w.heap.size, 0, none⟩ = some (.bool xn) := cell_later c qx_0
  replace qx_1 : w5.cell? ⟨w.heap.size, 1, none⟩ = some (.int .i64 xv) := cell_later c qx_1
  replace qx_2 : w5.cell? ⟨w.heap.size, 2, none⟩ = some (.string xs) := cell_later c qx_2
  replace qy_0 : w5.cell? ⟨w.heap.size + 1, 0, none⟩ = some (.bool yn) := cell_later c qy_0
  replace qy_1 : w5.cell? ⟨w.heap.size + 1, 1, none⟩ = some (.int .i64 yv) := cell_later c qy_1
  replace qy_2 : w5.cell? ⟨w.heap.size + 1, 2, none⟩ = some (.string ys) := cell_later c qy_2
  replace qa_0 : w5.cell? ⟨w.heap.size + 1 + 1, 0, none⟩ = some (.int .i64 ka) := cell_later c qa_0
  replace qa_1 : w5.cell? ⟨w.heap.size + 1 + 1, 1, none⟩ = some (.int .i64 sa) := cell_later c qa_1
  replace qb_0 : w5.cell? ⟨w.heap.size + 1 + 1 + 1, 0, none⟩ = some (.int .i64 kb) := cell_later c qb_0
  replace qb_1 : w5.cell? ⟨w.heap.size + 1 + 1 + 1, 1, none⟩ = some (.int .i64 sb) := cell_later c qb_1
  replace qp_0 : w5.cell? ⟨w2.heap.size, 0, none⟩ = some (.bool rn) := cell_later c qp_0
  replace qp_1 : w5.cell? ⟨w2.heap.size, 1, none⟩ = some (.int .i64 rv) := cell_later c qp_1
  replace qp_2 : w5.cell? ⟨w2.heap.size, 2, none⟩ = some (.string rs) := cell_later c qp_2
  replace qq_0 : w5.cell? ⟨w3.heap.size, 0, none⟩ = some (.bool rn) := cell_later c qq_0
  replace qq_1 : w5.cell? ⟨w3.heap.size, 1, none⟩ = some (.int .i64 rv) := cell_later c qq_1
  replace qq_2 : w5.cell? ⟨w3.heap.size, 2, none⟩ = some (.string rs) := cell_later c qq_2
  clear lx
  have lx : w.heap.size < w5.heap.size := World.block_lt_of_cell? _ _ qx_0
  clear ly
  have ly : w.heap.size + 1 < w5.heap.size := World.block_lt_of_cell? _ _ qy_0
  clear la
  have la : w.heap.size + 1 + 1 < w5.heap.size := World.block_lt_of_cell? _ _ qa_0
  clear lb
  have lb : w.heap.size + 1 + 1 + 1 < w5.heap.size := World.block_lt_of_cell? _ _ qb_0
  clear lp
  have lp : w2.heap.size < w5.heap.size := World.block_lt_of_cell? _ _ qp_0
  clear lq
  have lq : w3.heap.size < w5.heap.size := World.block_lt_of_cell? _ _ qq_0
  replace C := Lib.hid (bj C.out c)
  clear c
  go_wp2_with fail
  refine (HT.out _ (HE.out.later C.out)).mono ?_
  rintro e w6 ⟨rfl, c⟩
  replace qx_0 : w6.cell? ⟨w.heap.size, 0, none⟩ = some (.bool xn) := cell_later c qx_0
  replace qx_1 : w6.cell? ⟨w.heap.size, 1, none⟩ = some (.int .i64 xv) := cell_later c qx_1
  replace qx_2 : w6.cell? ⟨w.heap.size, 2, none⟩ = some (.string xs) := cell_later c qx_2
  replace qy_0 : w6.cell? ⟨w.heap.size + 1, 0, none⟩ = some (.bool yn) := cell_later c qy_0
  replace qy_1 : w6.cell? ⟨w.heap.size + 1, 1, none⟩ = some (.int .i64 yv) := cell_later c qy_1
  replace qy_2 : w6.cell? ⟨w.heap.size + 1, 2, none⟩ = some (.string ys) := cell_later c qy_2
  replace qa_0 : w6.cell? ⟨w.heap.size + 1 + 1, 0, none⟩ = some (.int .i64 ka) := cell_later c qa_0
  replace qa_1 : w6.cell? ⟨w.heap.size + 1 + 1, 1, none⟩ = some (.int .i64 sa) := cell_later c qa_1
  replace qb_0 : w6.cell? ⟨w.heap.size + 1 + 1 + 1, 0, none⟩ = some (.int .i64 kb) := cell_later c qb_0
  replace qb_1 : w6.cell? ⟨w.heap.size + 1 + 1 + 1, 1, none⟩ = some (.int .i64 sb) := cell_later c qb_1
  replace qp_0 : w6.cell? ⟨w2.heap.size, 0, none⟩ = some (.bool rn) := cell_later c qp_0
  replace qp_1 : w6.cell? ⟨w2.heap.size, 1, none⟩ = some (.int .i64 rv) := cell_later c qp_1
  replace qp_2 : w6.cell? ⟨w2.heap.size, 2, none⟩ = some (.string rs) := cell_later c qp_2
  replace qq_0 : w6.cell? ⟨w3.heap.size, 0, none⟩ = some (.bool rn) := cell_later c qq_0
  replace qq_1 : w6.cell? ⟨w3.heap.size, 1, none⟩ = some (.int .i64 rv) := cell_later c qq_1
  replace qq_2 : w6.cell? ⟨w3.heap.size, 2, none⟩ = some (.string rs) := cell_later c qq_2
  clear lx
  have lx : w.heap.size < w6.heap.size := World.block_lt_of_cell? _ _ qx_0
  clear ly
  have ly : w.heap.size + 1 < w6.heap.size := World.block_lt_of_cell? _ _ qy_0
  clear la
  have la : w.heap.size + 1 + 1 < w6.heap.size := World.block_lt_of_cell? _ _ qa_0
  clear lb
  have lb : w.heap.size + 1 + 1 + 1 < w6.heap.size := World.block_lt_of_cell? _ _ qb_0
  clear lp
  have lp : w2.heap.size < w6.heap.size := World.block_lt_of_cell? _ _ qp_0
  clear lq
  have lq : w3.heap.size < w6.heap.size := World.block_lt_of_cell? _ _ qq_0
  replace C := Lib.hid (bj C.out c)
  clear c
  go_wp2_with fail
  refine (HTR.out _ (HE.out.later C.out)).mono ?_
  rintro e w7 ⟨rfl, c⟩
  replace qx_0 : w7.cell? ⟨w.heap.size, 0, none⟩ = some (.bool xn) := cell_later c qx_0
  replace qx_1 : w7.cell? ⟨w.heap.size, 1, none⟩ = some (.int .i64 xv) := cell_later c qx_1
  replace qx_2 : w7.cell? ⟨w.heap.size, 2, none⟩ = some (.string xs) := cell_later c qx_2
  replace qy_0 : w7.cell? ⟨w.heap.size + 1, 0, none⟩ = some (.bool yn) := cell_later c qy_0
  replace qy_1 : w7.cell? ⟨w.heap.size + 1, 1, none⟩ = some (.int .i64 yv) := cell_later c qy_1
  replace qy_2 : w7.cell? ⟨w.heap.size + 1, 2, none⟩ = some (.string ys) := cell_later c qy_2
  replace qa_0 : w7.cell? ⟨w.heap.size + 1 + 1, 0, none⟩ = some (.int .i64 ka) := cell_later c qa_0
  replace qa_1 : w7.cell? ⟨w.heap.size + 1 + 1, 1, none⟩ = some (.int .i64 sa) := cell_later c qa_1
  replace qb_0 : w7.cell? ⟨w.heap.size + 1 + 1 + 1, 0, none⟩ = some (.int .i64 kb) := cell_later c qb_0
  replace qb_1 : w7.cell? ⟨w.heap.size + 1 + 1 + 1, 1, none⟩ = some (.int .i64 sb) := cell_later c qb_1
  replace qp_0 : w7.cell? ⟨w2.heap.size, 0, none⟩ = some (.bool rn) := cell_later c qp_0
  replace qp_1 : w7.cell? ⟨w2.heap.size, 1, none⟩ = some (.int .i64 rv) := cell_later c qp_1
  replace qp_2 : w7.cell? ⟨w2.heap.size, 2, none⟩ = some (.string rs) := cell_later c qp_2
  replace qq_0 : w7.cell? ⟨w3.heap.size, 0, none⟩ = some (.bool rn) := cell_later c qq_0
  replace qq_1 : w7.cell? ⟨w3.heap.size, 1, none⟩ = some (.int .i64 rv) := cell_later c qq_1
  replace qq_2 : w7.cell? ⟨w3.heap.size, 2, none⟩ = some (.string rs) := cell_later c qq_2
  clear lx
  have lx : w.heap.size < w7.heap.size := World.block_lt_of_cell? _ _ qx_0
  clear ly
  have ly : w.heap.size + 1 < w7.heap.size := World.block_lt_of_cell? _ _ qy_0
  clear la
  have la : w.heap.size + 1 + 1 < w7.heap.size := World.block_lt_of_cell? _ _ qa_0
  clear lb
  have lb : w.heap.size + 1 + 1 + 1 < w7.heap.size := World.block_lt_of_cell? _ _ qb_0
  clear lp
  have lp : w2.heap.size < w7.heap.size := World.block_lt_of_cell? _ _ qp_0
  clear lq
  have lq : w3.heap.size < w7.heap.size := World.block_lt_of_cell? _ _ qq_0
  replace C := Lib.hid (bj C.out c)
  clear c
  go_wp2_with fail
  have HZ := Lib.hid (show HeldK w (w2.heap.size) (w3.heap.size) xn yn rn xv yv rv ka sa kb sb xs ys rs w7.drew from ⟨qx_0, qx_1, qx_2, qy_0, qy_1, qy_2, qa_0, qa_1, qp_0, qp_1, qp_2, qq_0, qq_1, qq_2, C.out.drew⟩)
  refine wp_region_held_drew (S := fun W => HeldK w (w2.heap.size) (w3.heap.size) xn yn rn xv yv rv ka sa kb sb xs ys rs W) (by kernel_rfl) HZ.out (fun hHeld => ?_)
  refine take_yes (i := 0) (d := (some 73)) (v := ?_) rfl (by kernel_rfl) (by kernel_rfl) (by kernel_rfl) rfl (fun _ _ _ h => h) (by rfl) (by assumption) ?_ ?_
  rotate_left
  · (intro w hSw; (try dsimp only at hSw); go_simp; try with_reducible rfl)
  try simp only [Act.put, List.setIfInBounds_toArray, List.set_cons_zero, List.set_cons_succ]
  refine take_yes (i := 1) (d := (some 74)) (v := ?_) rfl (by kernel_rfl) (by kernel_rfl) (by kernel_rfl) rfl (fun _ _ _ h => h) (by rfl) (by assumption) ?_ ?_
  rotate_left
  · (intro w hSw; (try dsimp only at hSw); go_simp; try with_reducible rfl)
  try simp only [Act.put, List.setIfInBounds_toArray, List.set_cons_zero, List.set_cons_succ]
  refine take_yes (i := 2) (d := (some 75)) (v := ?_) rfl (by kernel_rfl) (by kernel_rfl) (by kernel_rfl) rfl (fun _ _ _ h => h) (by rfl) (by assumption) ?_ ?_
  rotate_left
  · (intro w hSw; (try dsimp only at hSw); go_simp; try with_reducible rfl)
  try simp only [Act.put, List.setIfInBounds_toArray, List.set_cons_zero, List.set_cons_succ]
  refine take_yes (i := 3) (d := (some 76)) (v := ?_) rfl (by kernel_rfl) (by kernel_rfl) (by kernel_rfl) rfl (fun _ _ _ h => h) (by rfl) (by assumption) ?_ ?_
  rotate_left
  · (intro w hSw; (try dsimp only at hSw); go_simp; try with_reducible rfl)
  try simp only [Act.put, List.setIfInBounds_toArray, List.set_cons_zero, List.set_cons_succ]
  refine take_yes (i := 4) (d := (some 77)) (v := ?_) rfl (by kernel_rfl) (by kernel_rfl) (by kernel_rfl) rfl (fun _ _ _ h => h) (by rfl) (by assumption) ?_ ?_
  rotate_left
  · (intro w hSw; (try dsimp only at hSw); go_simp; try with_reducible rfl)
  try simp only [Act.put, List.setIfInBounds_toArray, List.set_cons_zero, List.set_cons_succ]
  refine take_yes (i := 5) (d := (some 78)) (v := ?_) rfl (by kernel_rfl) (by kernel_rfl) (by kernel_rfl) rfl (fun _ _ _ h => h) (by rfl) (by assumption) ?_ ?_
  rotate_left
  · (intro w hSw; (try dsimp only at hSw); go_simp; try with_reducible rfl)
  try simp only [Act.put, List.setIfInBounds_toArray, List.set_cons_zero, List.set_cons_succ]
  refine take_yes (i := 6) (d := (some 79)) (v := ?_) rfl (by kernel_rfl) (by kernel_rfl) (by kernel_rfl) rfl (fun _ _ _ h => h) (by rfl) (by assumption) ?_ ?_
  rotate_left
  · (intro w hSw; (try dsimp only at hSw); go_simp; try with_reducible rfl)
  try simp only [Act.put, List.setIfInBounds_toArray, List.set_cons_zero, List.set_cons_succ]
  refine take_yes (i := 7) (d := (some 80)) (v := ?_) rfl (by kernel_rfl) (by kernel_rfl) (by kernel_rfl) rfl (fun _ _ _ h => h) (by rfl) (by assumption) ?_ ?_
  rotate_left
  · (intro w hSw; (try dsimp only at hSw); go_simp; try with_reducible rfl)
  try simp only [Act.put, List.setIfInBounds_toArray, List.set_cons_zero, List.set_cons_succ]
  refine take_yes (i := 8) (d := (some 81)) (v := ?_) rfl (by kernel_rfl) (by kernel_rfl) (by kernel_rfl) rfl (fun _ _ _ h => h) (by rfl) (by assumption) ?_ ?_
  rotate_left
  · (intro w hSw; (try dsimp only at hSw); go_simp; try with_reducible rfl)
  try simp only [Act.put, List.setIfInBounds_toArray, List.set_cons_zero, List.set_cons_succ]
  refine take_yes (i := 9) (d := (some 82)) (v := ?_) rfl (by kernel_rfl) (by kernel_rfl) (by kernel_rfl) rfl (fun _ _ _ h => h) (by rfl) (by assumption) ?_ ?_
  rotate_left
  · (intro w hSw; (try dsimp only at hSw); go_simp; try with_reducible rfl)
  try simp only [Act.put, List.setIfInBounds_toArray, List.set_cons_zero, List.set_cons_succ]
  refine take_yes (i := 10) (d := (some 83)) (v := ?_) rfl (by kernel_rfl) (by kernel_rfl) (by kernel_rfl) rfl (fun _ _ _ h => h) (by rfl) (by assumption) ?_ ?_
  rotate_left
  · (intro w hSw; (try dsimp only at hSw); go_simp; try with_reducible rfl)
  try simp only [Act.put, List.setIfInBounds_toArray, List.set_cons_zero, List.set_cons_succ]
  refine take_yes (i := 11) (d := (some 84)) (v := ?_) rfl (by kernel_rfl) (by kernel_rfl) (by kernel_rfl) rfl (fun _ _ _ h => h) (by rfl) (by assumption) ?_ ?_
  rotate_left
  · (intro w hSw; (try dsimp only at hSw); go_simp; try with_reducible rfl)
  try simp only [Act.put, List.setIfInBounds_toArray, List.set_cons_zero, List.set_cons_succ]
  refine take_yes (i := 12) (d := (some 85)) (v := ?_) rfl (by kernel_rfl) (by kernel_rfl) (by kernel_rfl) rfl (fun _ _ _ h => h) (by rfl) (by assumption) ?_ ?_
  rotate_left
  · (intro w hSw; (try dsimp only at hSw); go_simp; try with_reducible rfl)
  try simp only [Act.put, List.setIfInBounds_toArray, List.set_cons_zero, List.set_cons_succ]
  refine take_yes (i := 13) (d := (some 86)) (v := ?_) rfl (by kernel_rfl) (by kernel_rfl) (by kernel_rfl) rfl (fun _ _ _ h => h) (by rfl) (by assumption) ?_ ?_
  rotate_left
  · (intro w hSw; (try dsimp only at hSw); go_simp; try with_reducible rfl)
  try simp only [Act.put, List.setIfInBounds_toArray, List.set_cons_zero, List.set_cons_succ]
  refine take_yes (i := 14) (d := (some 87)) (v := ?_) rfl (by kernel_rfl) (by kernel_rfl) (by kernel_rfl) rfl (fun _ _ _ h => h) (by rfl) (by assumption) ?_ ?_
  rotate_left
  · (intro w hSw; (try dsimp only at hSw); go_simp; try with_reducible rfl)
  try simp only [Act.put, List.setIfInBounds_toArray, List.set_cons_zero, List.set_cons_succ]
  refine take_yes (i := 15) (d := (some 88)) (v := ?_) rfl (by kernel_rfl) (by kernel_rfl) (by kernel_rfl) rfl (fun _ _ _ h => h) (by rfl) (by assumption) ?_ ?_
  rotate_left
  · (intro w hSw; (try dsimp only at hSw); go_simp; try with_reducible rfl)
  try simp only [Act.put, List.setIfInBounds_toArray, List.set_cons_zero, List.set_cons_succ]
  refine take_yes (i := 16) (d := (some 89)) (v := ?_) rfl (by kernel_rfl) (by kernel_rfl) (by kernel_rfl) rfl (fun _ _ _ h => h) (by rfl) (by assumption) ?_ ?_
  rotate_left
  · (intro w hSw; (try dsimp only at hSw); go_simp; try with_reducible rfl)
  try simp only [Act.put, List.setIfInBounds_toArray, List.set_cons_zero, List.set_cons_succ]
  refine take_yes (i := 17) (d := (some 90)) (v := ?_) rfl (by kernel_rfl) (by kernel_rfl) (by kernel_rfl) rfl (fun _ _ _ h => h) (by rfl) (by assumption) ?_ ?_
  rotate_left
  · (intro w hSw; (try dsimp only at hSw); go_simp; try with_reducible rfl)
  try simp only [Act.put, List.setIfInBounds_toArray, List.set_cons_zero, List.set_cons_succ]
  refine take_yes (i := 18) (d := (some 91)) (v := ?_) rfl (by kernel_rfl) (by kernel_rfl) (by kernel_rfl) rfl (fun _ _ _ h => h) (by rfl) (by assumption) ?_ ?_
  rotate_left
  · (intro w hSw; (try dsimp only at hSw); go_simp; try with_reducible rfl)
  try simp only [Act.put, List.setIfInBounds_toArray, List.set_cons_zero, List.set_cons_succ]
  refine take_yes (i := 19) (d := (some 92)) (v := ?_) rfl (by kernel_rfl) (by kernel_rfl) (by kernel_rfl) rfl (fun _ _ _ h => h) (by rfl) (by assumption) ?_ ?_
  rotate_left
  · (intro w hSw; (try dsimp only at hSw); go_simp; try with_reducible rfl)
  try simp only [Act.put, List.setIfInBounds_toArray, List.set_cons_zero, List.set_cons_succ]
  refine take_yes (i := 20) (d := (some 93)) (v := ?_) rfl (by kernel_rfl) (by kernel_rfl) (by kernel_rfl) rfl (fun _ _ _ h => h) (by rfl) (by assumption) ?_ ?_
  rotate_left
  · (intro w hSw; (try dsimp only at hSw); go_simp; try with_reducible rfl)
  try simp only [Act.put, List.setIfInBounds_toArray, List.set_cons_zero, List.set_cons_succ]
  refine take_yes (i := 21) (d := (some 94)) (v := ?_) rfl (by kernel_rfl) (by kernel_rfl) (by kernel_rfl) rfl (fun _ _ _ h => h) (by rfl) (by assumption) ?_ ?_
  rotate_left
  · (intro w hSw; (try dsimp only at hSw); go_simp; try with_reducible rfl)
  try simp only [Act.put, List.setIfInBounds_toArray, List.set_cons_zero, List.set_cons_succ]
  refine take_yes (i := 22) (d := (some 95)) (v := ?_) rfl (by kernel_rfl) (by kernel_rfl) (by kernel_rfl) rfl (fun _ _ _ h => h) (by rfl) (by assumption) ?_ ?_
  rotate_left
  · (intro w hSw; (try dsimp only at hSw); go_simp; try with_reducible rfl)
  try simp only [Act.put, List.setIfInBounds_toArray, List.set_cons_zero, List.set_cons_succ]
  refine take_yes (i := 23) (d := (some 96)) (v := ?_) rfl (by kernel_rfl) (by kernel_rfl) (by kernel_rfl) rfl (fun _ _ _ h => h) (by rfl) (by assumption) ?_ ?_
  rotate_left
  · (intro w hSw; (try dsimp only at hSw); go_simp; try with_reducible rfl)
  try simp only [Act.put, List.setIfInBounds_toArray, List.set_cons_zero, List.set_cons_succ]
  refine take_yes (i := 24) (d := (some 97)) (v := ?_) rfl (by kernel_rfl) (by kernel_rfl) (by kernel_rfl) rfl (fun _ _ _ h => h) (by rfl) (by assumption) ?_ ?_
  rotate_left
  · (intro w hSw; (try dsimp only at hSw); go_simp; try with_reducible rfl)
  try simp only [Act.put, List.setIfInBounds_toArray, List.set_cons_zero, List.set_cons_succ]
  refine take_yes (i := 25) (d := (some 98)) (v := ?_) rfl (by kernel_rfl) (by kernel_rfl) (by kernel_rfl) rfl (fun _ _ _ h => h) (by rfl) (by assumption) ?_ ?_
  rotate_left
  · (intro w hSw; (try dsimp only at hSw); go_simp; try with_reducible rfl)
  try simp only [Act.put, List.setIfInBounds_toArray, List.set_cons_zero, List.set_cons_succ]
  refine take_yes (i := 26) (d := (some 99)) (v := ?_) rfl (by kernel_rfl) (by kernel_rfl) (by kernel_rfl) rfl (fun _ _ _ h => h) (by rfl) (by assumption) ?_ ?_
  rotate_left
  · (intro w hSw; (try dsimp only at hSw); go_simp; try with_reducible rfl)
  try simp only [Act.put, List.setIfInBounds_toArray, List.set_cons_zero, List.set_cons_succ]
  refine take_yes (i := 27) (d := (some 100)) (v := ?_) rfl (by kernel_rfl) (by kernel_rfl) (by kernel_rfl) rfl (fun _ _ _ h => h) (by rfl) (by assumption) ?_ ?_
  rotate_left
  · (intro w hSw; (try dsimp only at hSw); go_simp; try with_reducible rfl)
  try simp only [Act.put, List.setIfInBounds_toArray, List.set_cons_zero, List.set_cons_succ]
  refine take_yes (i := 28) (d := (some 101)) (v := ?_) rfl (by kernel_rfl) (by kernel_rfl) (by kernel_rfl) rfl (fun _ _ _ h => h) (by rfl) (by assumption) ?_ ?_
  rotate_left
  · (intro w hSw; (try dsimp only at hSw); go_simp; try with_reducible rfl)
  try simp only [Act.put, List.setIfInBounds_toArray, List.set_cons_zero, List.set_cons_succ]
  refine take_yes (i := 29) (d := (some 102)) (v := ?_) rfl (by kernel_rfl) (by kernel_rfl) (by kernel_rfl) rfl (fun _ _ _ h => h) (by rfl) (by assumption) ?_ ?_
  rotate_left
  · (intro w hSw; (try dsimp only at hSw); go_simp; try with_reducible rfl)
  try simp only [Act.put, List.setIfInBounds_toArray, List.set_cons_zero, List.set_cons_succ]
  refine take_yes (i := 30) (d := (some 103)) (v := ?_) rfl (by kernel_rfl) (by kernel_rfl) (by kernel_rfl) rfl (fun _ _ _ h => h) (by rfl) (by assumption) ?_ ?_
  rotate_left
  · (intro w hSw; (try dsimp only at hSw); go_simp; try with_reducible rfl)
  try simp only [Act.put, List.setIfInBounds_toArray, List.set_cons_zero, List.set_cons_succ]
  refine take_yes (i := 31) (d := (some 104)) (v := ?_) rfl (by kernel_rfl) (by kernel_rfl) (by kernel_rfl) rfl (fun _ _ _ h => h) (by rfl) (by assumption) ?_ ?_
  rotate_left
  · (intro w hSw; (try dsimp only at hSw); go_simp; try with_reducible rfl)
  try simp only [Act.put, List.setIfInBounds_toArray, List.set_cons_zero, List.set_cons_succ]
  refine take_yes (i := 32) (d := (some 105)) (v := ?_) rfl (by kernel_rfl) (by kernel_rfl) (by kernel_rfl) rfl (fun _ _ _ h => h) (by rfl) (by assumption) ?_ ?_
  rotate_left
  · (intro w hSw; (try dsimp only at hSw); go_simp; try with_reducible rfl)
  try simp only [Act.put, List.setIfInBounds_toArray, List.set_cons_zero, List.set_cons_succ]
  refine take_yes (i := 33) (d := (some 106)) (v := ?_) rfl (by kernel_rfl) (by kernel_rfl) (by kernel_rfl) rfl (fun _ _ _ h => h) (by rfl) (by assumption) ?_ ?_
  rotate_left
  · (intro w hSw; (try dsimp only at hSw); go_simp; try with_reducible rfl)
  try simp only [Act.put, List.setIfInBounds_toArray, List.set_cons_zero, List.set_cons_succ]
  refine take_yes (i := 34) (d := (some 107)) (v := ?_) rfl (by kernel_rfl) (by kernel_rfl) (by kernel_rfl) rfl (fun _ _ _ h => h) (by rfl) (by assumption) ?_ ?_
  rotate_left
  · (intro w hSw; (try dsimp only at hSw); go_simp; try with_reducible rfl)
  try simp only [Act.put, List.setIfInBounds_toArray, List.set_cons_zero, List.set_cons_succ]
  refine take_yes (i := 36) (d := (some 109)) (v := ?_) rfl (by kernel_rfl) (by kernel_rfl) (by kernel_rfl) rfl (fun _ _ _ h => h) (by rfl) (by assumption) ?_ ?_
  rotate_left
  · (intro w hSw; (try dsimp only at hSw); go_simp; try with_reducible rfl)
  try simp only [Act.put, List.setIfInBounds_toArray, List.set_cons_zero, List.set_cons_succ]
  refine take_yes (i := 37) (d := (some 110)) (v := ?_) rfl (by kernel_rfl) (by kernel_rfl) (by kernel_rfl) rfl (fun _ _ _ h => h) (by rfl) (by assumption) ?_ ?_
  rotate_left
  · (intro w hSw; (try dsimp only at hSw); go_simp; try with_reducible rfl)
  try simp only [Act.put, List.setIfInBounds_toArray, List.set_cons_zero, List.set_cons_succ]
  refine take_yes (i := 38) (d := (some 111)) (v := ?_) rfl (by kernel_rfl) (by kernel_rfl) (by kernel_rfl) rfl (fun _ _ _ h => h) (by rfl) (by assumption) ?_ ?_
  rotate_left
  · (intro w hSw; (try dsimp only at hSw); go_simp; try with_reducible rfl)
  try simp only [Act.put, List.setIfInBounds_toArray, List.set_cons_zero, List.set_cons_succ]
  refine wpAnyH_ready (rs := [35]) (by kernel_rfl) (by simp) ?_
  refine AllReadyH.cons (o := _) rfl (fun K hK => ?_) AllReadyH.nil
  go_simp
  go_at_call 11
  refine (HO.out _).mono ?_
  rintro e W2 ⟨rfl, c2⟩
  go_wp2_with fail
  refine hK.out _ _ (heldK_later c2 (by assumption)) (fun hHeld => ?_)
  clear c2
  clear hK K
  try simp only [Act.put, List.setIfInBounds_toArray, List.set_cons_zero, List.set_cons_succ]
  refine wpAnyH_ready (rs := [39]) (by kernel_rfl) (by simp) ?_
  refine AllReadyH.cons (o := _) rfl (fun K hK => ?_) AllReadyH.nil
  go_simp
  go_at_call 12
  refine (HOR.out _).mono ?_
  rintro e W2 ⟨rfl, c2⟩
  go_wp2_with fail
  refine hK.out _ _ (heldK_later c2 (by assumption)) (fun hHeld => ?_)
  clear c2
  clear hK K
  try simp only [Act.put, List.setIfInBounds_toArray, List.set_cons_zero, List.set_cons_succ]
  refine take_yes (i := 40) (d := (some 113)) (v := ?_) rfl (by kernel_rfl) (by kernel_rfl) (by kernel_rfl) rfl (fun _ _ _ h => h) (by rfl) (by assumption) ?_ ?_
  rotate_left
  · (intro w hSw; (try dsimp only at hSw); go_simp; try with_reducible rfl)
  try simp only [Act.put, List.setIfInBounds_toArray, List.set_cons_zero, List.set_cons_succ]
  refine take_yes (i := 41) (d := (some 114)) (v := ?_) rfl (by kernel_rfl) (by kernel_rfl) (by kernel_rfl) rfl (fun _ _ _ h => h) (by rfl) (by assumption) ?_ ?_
  rotate_left
  · (intro w hSw; (try dsimp only at hSw); go_simp; try with_reducible rfl)
  try simp only [Act.put, List.setIfInBounds_toArray, List.set_cons_zero, List.set_cons_succ]
  refine take_yes (i := 42) (d := (some 115)) (v := ?_) rfl (by kernel_rfl) (by kernel_rfl) (by kernel_rfl) rfl (fun _ _ _ h => h) (by rfl) (by assumption) ?_ ?_
  rotate_left
  · (intro w hSw; (try dsimp only at hSw); go_simp; try with_reducible rfl)
  try simp only [Act.put, List.setIfInBounds_toArray, List.set_cons_zero, List.set_cons_succ]
  refine take_yes (i := 43) (d := (some 116)) (v := ?_) rfl (by kernel_rfl) (by kernel_rfl) (by kernel_rfl) rfl (fun _ _ _ h => h) (by rfl) (by assumption) ?_ ?_
  rotate_left
  · (intro w hSw; (try dsimp only at hSw); go_simp; try with_reducible rfl)
  try simp only [Act.put, List.setIfInBounds_toArray, List.set_cons_zero, List.set_cons_succ]
  refine take_yes (i := 45) (d := (some 118)) (v := ?_) rfl (by kernel_rfl) (by kernel_rfl) (by kernel_rfl) rfl (fun _ _ _ h => h) (by rfl) (by assumption) ?_ ?_
  rotate_left
  · (intro w hSw; (try dsimp only at hSw); go_simp; try with_reducible rfl)
  try simp only [Act.put, List.setIfInBounds_toArray, List.set_cons_zero, List.set_cons_succ]
  refine wpAnyH_ready (rs := [44]) (by kernel_rfl) (by simp) ?_
  refine AllReadyH.cons (o := _) rfl (fun K hK => ?_) AllReadyH.nil
  go_simp
  go_at_call 13
  refine (HN.out _).mono ?_
  rintro e W2 ⟨rfl, c2⟩
  go_wp2_with fail
  refine hK.out _ _ (heldK_later c2 (by assumption)) (fun hHeld => ?_)
  clear c2
  clear hK K
  try simp only [Act.put, List.setIfInBounds_toArray, List.set_cons_zero, List.set_cons_succ]
  refine wpAnyH_ready (rs := [46]) (by kernel_rfl) (by simp) ?_
  refine AllReadyH.cons (o := _) rfl (fun K hK => ?_) AllReadyH.nil
  go_simp
  go_at_call 14
  refine (HNR.out _).mono ?_
  rintro e W2 ⟨rfl, c2⟩
  go_wp2_with fail
  refine hK.out _ _ (heldK_later c2 (by assumption)) (fun hHeld => ?_)
  clear c2
  clear hK K
  try simp only [Act.put, List.setIfInBounds_toArray, List.set_cons_zero, List.set_cons_succ]
  refine take_yes (i := 47) (d := (some 120)) (v := ?_) rfl (by kernel_rfl) (by kernel_rfl) (by kernel_rfl) rfl (fun _ _ _ h => h) (by rfl) (by assumption) ?_ ?_
  rotate_left
  · (intro w hSw; (try dsimp only at hSw); go_simp; try with_reducible rfl)
  try simp only [Act.put, List.setIfInBounds_toArray, List.set_cons_zero, List.set_cons_succ]
  refine take_yes (i := 48) (d := (some 121)) (v := ?_) rfl (by kernel_rfl) (by kernel_rfl) (by kernel_rfl) rfl (fun _ _ _ h => h) (by rfl) (by assumption) ?_ ?_
  rotate_left
  · (intro w hSw; (try dsimp only at hSw); go_simp; try with_reducible rfl)
  try simp only [Act.put, List.setIfInBounds_toArray, List.set_cons_zero, List.set_cons_succ]
  refine take_yes (i := 49) (d := (some 122)) (v := ?_) rfl (by kernel_rfl) (by kernel_rfl) (by kernel_rfl) rfl (fun _ _ _ h => h) (by rfl) (by assumption) ?_ ?_
  rotate_left
  · (intro w hSw; (try dsimp only at hSw); go_simp; try with_reducible rfl)
  try simp only [Act.put, List.setIfInBounds_toArray, List.set_cons_zero, List.set_cons_succ]
  refine take_yes (i := 50) (d := (some 123)) (v := ?_) rfl (by kernel_rfl) (by kernel_rfl) (by kernel_rfl) rfl (fun _ _ _ h => h) (by rfl) (by assumption) ?_ ?_
  rotate_left
  · (intro w hSw; (try dsimp only at hSw); go_simp; try with_reducible rfl)
  try simp only [Act.put, List.setIfInBounds_toArray, List.set_cons_zero, List.set_cons_succ]
  refine take_yes (i := 51) (d := (some 124)) (v := ?_) rfl (by kernel_rfl) (by kernel_rfl) (by kernel_rfl) rfl (fun _ _ _ h => h) (by rfl) (by assumption) ?_ ?_
  rotate_left
  · (intro w hSw; (try dsimp only at hSw); go_simp; try with_reducible rfl)
  try simp only [Act.put, List.setIfInBounds_toArray, List.set_cons_zero, List.set_cons_succ]
  refine take_yes (i := 53) (d := (some 126)) (v := ?_) rfl (by kernel_rfl) (by kernel_rfl) (by kernel_rfl) rfl (fun _ _ _ h => h) (by rfl) (by assumption) ?_ ?_
  rotate_left
  · (intro w hSw; (try dsimp only at hSw); go_simp; try with_reducible rfl)
  try simp only [Act.put, List.setIfInBounds_toArray, List.set_cons_zero, List.set_cons_succ]
  refine take_yes (i := 54) (d := (some 127)) (v := ?_) rfl (by kernel_rfl) (by kernel_rfl) (by kernel_rfl) rfl (fun _ _ _ h => h) (by rfl) (by assumption) ?_ ?_
  rotate_left
  · (intro w hSw; (try dsimp only at hSw); go_simp; try with_reducible rfl)
  try simp only [Act.put, List.setIfInBounds_toArray, List.set_cons_zero, List.set_cons_succ]
  refine wpAnyH_ready (rs := [52]) (by kernel_rfl) (by simp) ?_
  refine AllReadyH.cons (o := _) rfl (fun K hK => ?_) AllReadyH.nil
  go_simp
  go_at_call 15
  refine (HD.out _).mono ?_
  rintro e W2 ⟨rfl, c2⟩
  go_wp2_with fail
  refine hK.out _ _ (heldK_later c2 (by assumption)) (fun hHeld => ?_)
  clear c2
  clear hK K
  try simp only [Act.put, List.setIfInBounds_toArray, List.set_cons_zero, List.set_cons_succ]
  refine wpAnyH_ready (rs := [55]) (by kernel_rfl) (by simp) ?_
  refine AllReadyH.cons (o := _) rfl (fun K hK => ?_) AllReadyH.nil
  go_simp
  go_at_call 16
  refine (HDR.out _).mono ?_
  rintro e W2 ⟨rfl, c2⟩
  go_wp2_with fail
  refine hK.out _ _ (heldK_later c2 (by assumption)) (fun hHeld => ?_)
  clear c2
  clear hK K
  try simp only [Act.put, List.setIfInBounds_toArray, List.set_cons_zero, List.set_cons_succ]
  refine take_yes (i := 56) (d := (some 129)) (v := ?_) rfl (by kernel_rfl) (by kernel_rfl) (by kernel_rfl) rfl (fun _ _ _ h => h) (by rfl) (by assumption) ?_ ?_
  rotate_left
  · (intro w hSw; (try dsimp only at hSw); go_simp; try with_reducible rfl)
  try simp only [Act.put, List.setIfInBounds_toArray, List.set_cons_zero, List.set_cons_succ]
  refine take_yes (i := 57) (d := (some 130)) (v := ?_) rfl (by kernel_rfl) (by kernel_rfl) (by kernel_rfl) rfl (fun _ _ _ h => h) (by rfl) (by assumption) ?_ ?_
  rotate_left
  · (intro w hSw; (try dsimp only at hSw); go_simp; try with_reducible rfl)
  try simp only [Act.put, List.setIfInBounds_toArray, List.set_cons_zero, List.set_cons_succ]
  refine take_yes (i := 58) (d := (some 131)) (v := ?_) rfl (by kernel_rfl) (by kernel_rfl) (by kernel_rfl) rfl (fun _ _ _ h => h) (by rfl) (by assumption) ?_ ?_
  rotate_left
  · (intro w hSw; (try dsimp only at hSw); go_simp; try with_reducible rfl)
  try simp only [Act.put, List.setIfInBounds_toArray, List.set_cons_zero, List.set_cons_succ]
  refine take_yes (i := 59) (d := (some 132)) (v := ?_) rfl (by kernel_rfl) (by kernel_rfl) (by kernel_rfl) rfl (fun _ _ _ h => h) (by rfl) (by assumption) ?_ ?_
  rotate_left
  · (intro w hSw; (try dsimp only at hSw); go_simp; try with_reducible rfl)
  try simp only [Act.put, List.setIfInBounds_toArray, List.set_cons_zero, List.set_cons_succ]
  refine take_yes (i := 60) (d := (some 133)) (v := ?_) rfl (by kernel_rfl) (by kernel_rfl) (by kernel_rfl) rfl (fun _ _ _ h => h) (by rfl) (by assumption) ?_ ?_
  rotate_left
  · (intro w hSw; (try dsimp only at hSw); go_simp; try with_reducible rfl)
  try simp only [Act.put, List.setIfInBounds_toArray, List.set_cons_zero, List.set_cons_succ]
  refine take_yes (i := 62) (d := (some 135)) (v := ?_) rfl (by kernel_rfl) (by kernel_rfl) (by kernel_rfl) rfl (fun _ _ _ h => h) (by rfl) (by assumption) ?_ ?_
  rotate_left
  · (intro w hSw; (try dsimp only at hSw); go_simp; try with_reducible rfl)
  try simp only [Act.put, List.setIfInBounds_toArray, List.set_cons_zero, List.set_cons_succ]
  refine take_yes (i := 63) (d := (some 136)) (v := ?_) rfl (by kernel_rfl) (by kernel_rfl) (by kernel_rfl) rfl (fun _ _ _ h => h) (by rfl) (by assumption) ?_ ?_
  rotate_left
  · (intro w hSw; (try dsimp only at hSw); go_simp; try with_reducible rfl)
  try simp only [Act.put, List.setIfInBounds_toArray, List.set_cons_zero, List.set_cons_succ]
  refine wpAnyH_ready (rs := [61]) (by kernel_rfl) (by simp) ?_
  refine AllReadyH.cons (o := _) rfl (fun K hK => ?_) AllReadyH.nil
  go_simp
  go_at_call 17
  refine (HR.out _).mono ?_
  rintro e W2 ⟨rfl, c2⟩
  go_wp2_with fail
  refine hK.out _ _ (heldK_later c2 (by assumption)) (fun hHeld => ?_)
  clear c2
  clear hK K
  try simp only [Act.put, List.setIfInBounds_toArray, List.set_cons_zero, List.set_cons_succ]
  refine wpAnyH_ready (rs := [64]) (by kernel_rfl) (by simp) ?_
  refine AllReadyH.cons (o := _) rfl (fun K hK => ?_) AllReadyH.nil
  go_simp
  go_at_call 18
  refine (HRR.out _).mono ?_
  rintro e W2 ⟨rfl, c2⟩
  go_wp2_with fail
  refine hK.out _ _ (heldK_later c2 (by assumption)) (fun hHeld => ?_)
  clear c2
  clear hK K
  try simp only [Act.put, List.setIfInBounds_toArray, List.set_cons_zero, List.set_cons_succ]
  refine take_yes (i := 65) (d := (some 138)) (v := ?_) rfl (by kernel_rfl) (by kernel_rfl) (by kernel_rfl) rfl (fun _ _ _ h => h) (by rfl) (by assumption) ?_ ?_
  rotate_left
  · (intro w hSw; (try dsimp only at hSw); go_simp; try with_reducible rfl)
  try simp only [Act.put, List.setIfInBounds_toArray, List.set_cons_zero, List.set_cons_succ]
  refine take_yes (i := 66) (d := (some 139)) (v := ?_) rfl (by kernel_rfl) (by kernel_rfl) (by kernel_rfl) rfl (fun _ _ _ h => h) (by rfl) (by assumption) ?_ ?_
  rotate_left
  · (intro w hSw; (try dsimp only at hSw); go_simp; try with_reducible rfl)
  try simp only [Act.put, List.setIfInBounds_toArray, List.set_cons_zero, List.set_cons_succ]
  refine take_yes (i := 67) (d := (some 10)) (v := ?_) rfl (by kernel_rfl) (by kernel_rfl) (by kernel_rfl) rfl (fun _ _ _ h => h) (by rfl) (by assumption) ?_ ?_
  rotate_left
  · (intro w hSw; (try dsimp only at hSw); go_simp; try with_reducible rfl)
  try simp only [Act.put, List.setIfInBounds_toArray, List.set_cons_zero, List.set_cons_succ]
  refine wpAnyH_done (by kernel_rfl) ?_ _
  go_wp2_with fail
  go_ret
  exact ⟨by simp, (‹HeldK w (w2.heap.size) (w3.heap.size) xn yn rn xv yv rv ka sa kb sb xs ys rs _›).2.2.2.2.2.2.2.2.2.2.2.2.2.2⟩
theorem u8_ofR {a : Int} (h : (Lit.int .u8 a).wf = true) : ∃ o : UInt8, a = (o.toNat : Int) := by
  have := Wf.u8 h
  exact ⟨UInt8.ofNat a.toNat, by simp; omega⟩
theorem i64_ofR {a : Int} (h : (Lit.int .i64 a).wf = true) : I64 a := by have := Wf.i64 h; unfold I64; omega
theorem va_eta (r : Va) : Va.mk r.null r.n r.s = r := rfl
theorem reckons_walk (op : UInt8) (x y : Va) (ta tb : Ty) (hx : I64 x.n) (hy : I64 y.n) (w : World) (hE : VEnv w) : Calls Tryz.prog 3 #[.int .u8 (op.toNat : Int), .agg #[.bool x.null, .int .i64 x.n, .string x.s], .agg #[.bool y.null, .int .i64 y.n, .string y.s], .agg #[.int .i64 ta.kind, .int .i64 ta.scale], .agg #[.int .i64 tb.kind, .int .i64 tb.scale]] w (BoolS w true) :=
  reckons_core _ _ _ _ _ _ _ _ _ _ _ _ _ _ _ _ _ _ _ _ _ _ _ _ _ _ _ _ _ w hE
    (fun W => arith_any op x y ta tb hx hy W _ _ rfl) (fun W => compare_any x y ta tb hx hy W _ rfl) (fun W hW => text_any x ta hx W hW _ rfl) (fun W => order_any x y ta hx hy W _ rfl) (fun W => not_any x W _ rfl) (fun W => land_any x y W _ rfl) (fun W => lor_any x y W _ rfl)
    (fun W => rarith_any op x y ta tb hx hy W _ _ rfl) (fun W => rcompare_any x y ta tb hx hy W _ rfl) (fun W hW => rtext_any x ta hx W _ rfl) (fun W => rorder_all x y ta hx hy W _ rfl) (fun W => rnot_any x W _ rfl) (fun W => rland_any x y W _ rfl) (fun W => rlor_any x y W _ rfl)
end Go.Proofs.YtekpdcofjhdiiaaGreatDoor.Val
