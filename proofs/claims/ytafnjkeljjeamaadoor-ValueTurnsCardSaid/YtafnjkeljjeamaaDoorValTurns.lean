/-
  The law of turns: the walk. No condition beyond what each theorem names.
-/
import Derived.Test.YtafnjkeljjeamaaDoorValLawsPl
import Derived.Test.YtafnjkeljjeamaaDoorValN
import Derived.Test.YtafnjkeljjeamaaDoorValWk
namespace Go.Proofs.YtafnjkeljjeamaaDoor.Val
open Go.RowKit Go.Maps Go.Lib
set_option linter.unusedVariables false
set_option linter.unusedSimpArgs false
set_option maxRecDepth 100000 in
set_option maxHeartbeats 4000000 in
theorem turns_no (a b : Int) (s u : UInt8) (kt st ku su mn m1 c d : Int) (mb : Bool) (mS : ByteArray) (w : World) (hE : VEnv w) (n1 : NumK s kt st) (n2 : NumK u ku su) (a1 : AK (.int .u8 43) (.agg #[.bool false, .int .i64 a, .string ⟨#[]⟩]) (.agg #[.bool false, .int .i64 b, .string ⟨#[]⟩]) (.agg #[.int .i64 kt, .int .i64 st]) (.agg #[.int .i64 ku, .int .i64 su]) false 0 ⟨#[]⟩ 11) (a2 : AK (.int .u8 43) (.agg #[.bool false, .int .i64 b, .string ⟨#[]⟩]) (.agg #[.bool false, .int .i64 a, .string ⟨#[]⟩]) (.agg #[.int .i64 ku, .int .i64 su]) (.agg #[.int .i64 kt, .int .i64 st]) false 0 ⟨#[]⟩ 11)
    (a3 : AK (.int .u8 42) (.agg #[.bool false, .int .i64 a, .string ⟨#[]⟩]) (.agg #[.bool false, .int .i64 b, .string ⟨#[]⟩]) (.agg #[.int .i64 kt, .int .i64 st]) (.agg #[.int .i64 ku, .int .i64 su]) mb mn mS m1) (a4 : AK (.int .u8 42) (.agg #[.bool false, .int .i64 b, .string ⟨#[]⟩]) (.agg #[.bool false, .int .i64 a, .string ⟨#[]⟩]) (.agg #[.int .i64 ku, .int .i64 su]) (.agg #[.int .i64 kt, .int .i64 st]) mb mn mS m1) (k1 : CK (.agg #[.bool false, .int .i64 a, .string ⟨#[]⟩]) (.agg #[.bool false, .int .i64 b, .string ⟨#[]⟩]) (.agg #[.int .i64 kt, .int .i64 st]) (.agg #[.int .i64 ku, .int .i64 su]) c) (k2 : CK (.agg #[.bool false, .int .i64 b, .string ⟨#[]⟩]) (.agg #[.bool false, .int .i64 a, .string ⟨#[]⟩]) (.agg #[.int .i64 ku, .int .i64 su]) (.agg #[.int .i64 kt, .int .i64 st]) d) (hw : IntKind.i64.wrap (-d) = c) :
    Calls Tryd.prog 7 #[.int .i64 a, .int .i64 b, .int .u8 (s.toNat : Int), .int .u8 (u.toNat : Int)] w (BoolS w true) := by
  have HE := Lib.hid hE
  have N1 := Lib.hid n1
  have N2 := Lib.hid n2
  have A1 := Lib.hid a1
  have A2 := Lib.hid a2
  have A3 := Lib.hid a3
  have A4 := Lib.hid a4
  have C1 := Lib.hid k1
  have C2 := Lib.hid k2
  clear hE n1 n2 a1 a2 a3 a4 k1 k2
  go_enter Tryd.func7, Tryd.ntmps7
  go_wp2_with fail
  refine (examples10 _ HE.out).mono ?_
  rintro e w1 ⟨rfl, c⟩
  have C := Lib.hid c
  clear c
  go_wp2_with fail
  refine (N1.out _).mono ?_
  rintro e w2 ⟨rfl, c⟩
  replace C := Lib.hid (bj C.out c)
  clear c
  have qt_0 : (w2.alloc (.cells #[.int .i64 kt, .int .i64 st] 23)).cell? ⟨w2.heap.size, 0, none⟩ = some (.int .i64 kt) := World.cell?_alloc_at _ _ _ _ (rfl)
  have qt_1 : (w2.alloc (.cells #[.int .i64 kt, .int .i64 st] 23)).cell? ⟨w2.heap.size, 1, none⟩ = some (.int .i64 st) := World.cell?_alloc_at _ _ _ _ (rfl)
  replace C := Lib.hid (ba C.out (.cells #[.int .i64 kt, .int .i64 st] 23))
  go_wp2_with fail
  refine (N2.out _).mono ?_
  rintro e w3 ⟨rfl, c⟩
  replace qt_0 : w3.cell? ⟨w2.heap.size, 0, none⟩ = some (.int .i64 kt) := cell_later c qt_0
  replace qt_1 : w3.cell? ⟨w2.heap.size, 1, none⟩ = some (.int .i64 st) := cell_later c qt_1
  have lt : w2.heap.size < w3.heap.size := World.block_lt_of_cell? _ _ qt_0
  replace C := Lib.hid (bj C.out c)
  clear c
  replace qt_0 : (w3.alloc (.cells #[.int .i64 ku, .int .i64 su] 23)).cell? ⟨w2.heap.size, 0, none⟩ = some (.int .i64 kt) := past1 _ qt_0
  replace qt_1 : (w3.alloc (.cells #[.int .i64 ku, .int .i64 su] 23)).cell? ⟨w2.heap.size, 1, none⟩ = some (.int .i64 st) := past1 _ qt_1
  have qu_0 : (w3.alloc (.cells #[.int .i64 ku, .int .i64 su] 23)).cell? ⟨w3.heap.size, 0, none⟩ = some (.int .i64 ku) := World.cell?_alloc_at _ _ _ _ (rfl)
  have qu_1 : (w3.alloc (.cells #[.int .i64 ku, .int .i64 su] 23)).cell? ⟨w3.heap.size, 1, none⟩ = some (.int .i64 su) := World.cell?_alloc_at _ _ _ _ (rfl)
  replace C := Lib.hid (ba C.out (.cells #[.int .i64 ku, .int .i64 su] 23))
  replace qt_0 : ((w3.alloc (.cells #[.int .i64 ku, .int .i64 su] 23)).alloc (.cells #[.bool false, .int .i64 a, .string ⟨#[]⟩] 25)).cell? ⟨w2.heap.size, 0, none⟩ = some (.int .i64 kt) := past1 _ qt_0
  replace qt_1 : ((w3.alloc (.cells #[.int .i64 ku, .int .i64 su] 23)).alloc (.cells #[.bool false, .int .i64 a, .string ⟨#[]⟩] 25)).cell? ⟨w2.heap.size, 1, none⟩ = some (.int .i64 st) := past1 _ qt_1
  replace qu_0 : ((w3.alloc (.cells #[.int .i64 ku, .int .i64 su] 23)).alloc (.cells #[.bool false, .int .i64 a, .string ⟨#[]⟩] 25)).cell? ⟨w3.heap.size, 0, none⟩ = some (.int .i64 ku) := past1 _ qu_0
  replace qu_1 : ((w3.alloc (.cells #[.int .i64 ku, .int .i64 su] 23)).alloc (.cells #[.bool false, .int .i64 a, .string ⟨#[]⟩] 25)).cell? ⟨w3.heap.size, 1, none⟩ = some (.int .i64 su) := past1 _ qu_1
  have qx_0 : ((w3.alloc (.cells #[.int .i64 ku, .int .i64 su] 23)).alloc (.cells #[.bool false, .int .i64 a, .string ⟨#[]⟩] 25)).cell? ⟨w3.heap.size + 1, 0, none⟩ = some (.bool false) := World.cell?_alloc_at _ _ _ _ (by simp)
  have qx_1 : ((w3.alloc (.cells #[.int .i64 ku, .int .i64 su] 23)).alloc (.cells #[.bool false, .int .i64 a, .string ⟨#[]⟩] 25)).cell? ⟨w3.heap.size + 1, 1, none⟩ = some (.int .i64 a) := World.cell?_alloc_at _ _ _ _ (by simp)
  have qx_2 : ((w3.alloc (.cells #[.int .i64 ku, .int .i64 su] 23)).alloc (.cells #[.bool false, .int .i64 a, .string ⟨#[]⟩] 25)).cell? ⟨w3.heap.size + 1, 2, none⟩ = some (.string ⟨#[]⟩) := World.cell?_alloc_at _ _ _ _ (by simp)
  replace C := Lib.hid (ba C.out (.cells #[.bool false, .int .i64 a, .string ⟨#[]⟩] 25))
  replace qt_0 : (((w3.alloc (.cells #[.int .i64 ku, .int .i64 su] 23)).alloc (.cells #[.bool false, .int .i64 a, .string ⟨#[]⟩] 25)).alloc (.cells #[.bool false, .int .i64 b, .string ⟨#[]⟩] 25)).cell? ⟨w2.heap.size, 0, none⟩ = some (.int .i64 kt) := past1 _ qt_0
  replace qt_1 : (((w3.alloc (.cells #[.int .i64 ku, .int .i64 su] 23)).alloc (.cells #[.bool false, .int .i64 a, .string ⟨#[]⟩] 25)).alloc (.cells #[.bool false, .int .i64 b, .string ⟨#[]⟩] 25)).cell? ⟨w2.heap.size, 1, none⟩ = some (.int .i64 st) := past1 _ qt_1
  replace qu_0 : (((w3.alloc (.cells #[.int .i64 ku, .int .i64 su] 23)).alloc (.cells #[.bool false, .int .i64 a, .string ⟨#[]⟩] 25)).alloc (.cells #[.bool false, .int .i64 b, .string ⟨#[]⟩] 25)).cell? ⟨w3.heap.size, 0, none⟩ = some (.int .i64 ku) := past1 _ qu_0
  replace qu_1 : (((w3.alloc (.cells #[.int .i64 ku, .int .i64 su] 23)).alloc (.cells #[.bool false, .int .i64 a, .string ⟨#[]⟩] 25)).alloc (.cells #[.bool false, .int .i64 b, .string ⟨#[]⟩] 25)).cell? ⟨w3.heap.size, 1, none⟩ = some (.int .i64 su) := past1 _ qu_1
  replace qx_0 : (((w3.alloc (.cells #[.int .i64 ku, .int .i64 su] 23)).alloc (.cells #[.bool false, .int .i64 a, .string ⟨#[]⟩] 25)).alloc (.cells #[.bool false, .int .i64 b, .string ⟨#[]⟩] 25)).cell? ⟨w3.heap.size + 1, 0, none⟩ = some (.bool false) := past1 _ qx_0
  replace qx_1 : (((w3.alloc (.cells #[.int .i64 ku, .int .i64 su] 23)).alloc (.cells #[.bool false, .int .i64 a, .string ⟨#[]⟩] 25)).alloc (.cells #[.bool false, .int .i64 b, .string ⟨#[]⟩] 25)).cell? ⟨w3.heap.size + 1, 1, none⟩ = some (.int .i64 a) := past1 _ qx_1
  replace qx_2 : (((w3.alloc (.cells #[.int .i64 ku, .int .i64 su] 23)).alloc (.cells #[.bool false, .int .i64 a, .string ⟨#[]⟩] 25)).alloc (.cells #[.bool false, .int .i64 b, .string ⟨#[]⟩] 25)).cell? ⟨w3.heap.size + 1, 2, none⟩ = some (.string ⟨#[]⟩) := past1 _ qx_2
  have qy_0 : (((w3.alloc (.cells #[.int .i64 ku, .int .i64 su] 23)).alloc (.cells #[.bool false, .int .i64 a, .string ⟨#[]⟩] 25)).alloc (.cells #[.bool false, .int .i64 b, .string ⟨#[]⟩] 25)).cell? ⟨w3.heap.size + 1 + 1, 0, none⟩ = some (.bool false) := World.cell?_alloc_at _ _ _ _ (by simp)
  have qy_1 : (((w3.alloc (.cells #[.int .i64 ku, .int .i64 su] 23)).alloc (.cells #[.bool false, .int .i64 a, .string ⟨#[]⟩] 25)).alloc (.cells #[.bool false, .int .i64 b, .string ⟨#[]⟩] 25)).cell? ⟨w3.heap.size + 1 + 1, 1, none⟩ = some (.int .i64 b) := World.cell?_alloc_at _ _ _ _ (by simp)
  have qy_2 : (((w3.alloc (.cells #[.int .i64 ku, .int .i64 su] 23)).alloc (.cells #[.bool false, .int .i64 a, .string ⟨#[]⟩] 25)).alloc (.cells #[.bool false, .int .i64 b, .string ⟨#[]⟩] 25)).cell? ⟨w3.heap.size + 1 + 1, 2, none⟩ = some (.string ⟨#[]⟩) := World.cell?_alloc_at _ _ _ _ (by simp)
  replace C := Lib.hid (ba C.out (.cells #[.bool false, .int .i64 b, .string ⟨#[]⟩] 25))
  go_wp2_with fail
  refine (A1.out _).mono ?_
  rintro e w4 ⟨rfl, c⟩
  replace qt_0 : w4.cell? ⟨w2.heap.size, 0, none⟩ = some (.int .i64 kt) := cell_later c qt_0
  replace qt_1 : w4.cell? ⟨w2.heap.size, 1, none⟩ = some (.int .i64 st) := cell_later c qt_1
  replace qu_0 : w4.cell? ⟨w3.heap.size, 0, none⟩ = some (.int .i64 ku) := cell_later c qu_0
  replace qu_1 : w4.cell? ⟨w3.heap.size, 1, none⟩ = some (.int .i64 su) := cell_later c qu_1
  replace qx_0 : w4.cell? ⟨w3.heap.size + 1, 0, none⟩ = some (.bool false) := cell_later c qx_0
  replace qx_1 : w4.cell? ⟨w3.heap.size + 1, 1, none⟩ = some (.int .i64 a) := cell_later c qx_1
  replace qx_2 : w4.cell? ⟨w3.heap.size + 1, 2, none⟩ = some (.string ⟨#[]⟩) := cell_later c qx_2
  replace qy_0 : w4.cell? ⟨w3.heap.size + 1 + 1, 0, none⟩ = some (.bool false) := cell_later c qy_0
  replace qy_1 : w4.cell? ⟨w3.heap.size + 1 + 1, 1, none⟩ = some (.int .i64 b) := cell_later c qy_1
  replace qy_2 : w4.cell? ⟨w3.heap.size + 1 + 1, 2, none⟩ = some (.string ⟨#[]⟩) := cell_later c qy_2
  clear lt
  have lt : w2.heap.size < w4.heap.size := World.block_lt_of_cell? _ _ qt_0
  have lu : w3.heap.size < w4.heap.size := World.block_lt_of_cell? _ _ qu_0
  have lx : w3.heap.size + 1 < w4.heap.size := World.block_lt_of_cell? _ _ qx_0
  have ly : w3.heap.size + 1 + 1 < w4.heap.size := World.block_lt_of_cell? _ _ qy_0
  replace C := Lib.hid (bj C.out c)
  clear c
  replace qt_0 : (w4.alloc (.cells #[.bool false, .int .i64 0, .string ⟨#[]⟩] 25)).cell? ⟨w2.heap.size, 0, none⟩ = some (.int .i64 kt) := past1 _ qt_0
  replace qt_1 : (w4.alloc (.cells #[.bool false, .int .i64 0, .string ⟨#[]⟩] 25)).cell? ⟨w2.heap.size, 1, none⟩ = some (.int .i64 st) := past1 _ qt_1
  replace qu_0 : (w4.alloc (.cells #[.bool false, .int .i64 0, .string ⟨#[]⟩] 25)).cell? ⟨w3.heap.size, 0, none⟩ = some (.int .i64 ku) := past1 _ qu_0
  replace qu_1 : (w4.alloc (.cells #[.bool false, .int .i64 0, .string ⟨#[]⟩] 25)).cell? ⟨w3.heap.size, 1, none⟩ = some (.int .i64 su) := past1 _ qu_1
  replace qx_0 : (w4.alloc (.cells #[.bool false, .int .i64 0, .string ⟨#[]⟩] 25)).cell? ⟨w3.heap.size + 1, 0, none⟩ = some (.bool false) := past1 _ qx_0
  replace qx_1 : (w4.alloc (.cells #[.bool false, .int .i64 0, .string ⟨#[]⟩] 25)).cell? ⟨w3.heap.size + 1, 1, none⟩ = some (.int .i64 a) := past1 _ qx_1
  replace qx_2 : (w4.alloc (.cells #[.bool false, .int .i64 0, .string ⟨#[]⟩] 25)).cell? ⟨w3.heap.size + 1, 2, none⟩ = some (.string ⟨#[]⟩) := past1 _ qx_2
  replace qy_0 : (w4.alloc (.cells #[.bool false, .int .i64 0, .string ⟨#[]⟩] 25)).cell? ⟨w3.heap.size + 1 + 1, 0, none⟩ = some (.bool false) := past1 _ qy_0
  replace qy_1 : (w4.alloc (.cells #[.bool false, .int .i64 0, .string ⟨#[]⟩] 25)).cell? ⟨w3.heap.size + 1 + 1, 1, none⟩ = some (.int .i64 b) := past1 _ qy_1
  replace qy_2 : (w4.alloc (.cells #[.bool false, .int .i64 0, .string ⟨#[]⟩] 25)).cell? ⟨w3.heap.size + 1 + 1, 2, none⟩ = some (.string ⟨#[]⟩) := past1 _ qy_2
  have qp_0 : (w4.alloc (.cells #[.bool false, .int .i64 0, .string ⟨#[]⟩] 25)).cell? ⟨w4.heap.size, 0, none⟩ = some (.bool false) := World.cell?_alloc_at _ _ _ _ (rfl)
  have qp_1 : (w4.alloc (.cells #[.bool false, .int .i64 0, .string ⟨#[]⟩] 25)).cell? ⟨w4.heap.size, 1, none⟩ = some (.int .i64 0) := World.cell?_alloc_at _ _ _ _ (rfl)
  have qp_2 : (w4.alloc (.cells #[.bool false, .int .i64 0, .string ⟨#[]⟩] 25)).cell? ⟨w4.heap.size, 2, none⟩ = some (.string ⟨#[]⟩) := World.cell?_alloc_at _ _ _ _ (rfl)
  replace C := Lib.hid (ba C.out (.cells #[.bool false, .int .i64 0, .string ⟨#[]⟩] 25))
  go_wp2_with fail
  refine (A2.out _).mono ?_
  rintro e w5 ⟨rfl, c⟩
  replace qt_0 : w5.cell? ⟨w2.heap.size, 0, none⟩ = some (.int .i64 kt) := cell_later c qt_0
  replace qt_1 : w5.cell? ⟨w2.heap.size, 1, none⟩ = some (.int .i64 st) := cell_later c qt_1
  replace qu_0 : w5.cell? ⟨w3.heap.size, 0, none⟩ = some (.int .i64 ku) := cell_later c qu_0
  replace qu_1 : w5.cell? ⟨w3.heap.size, 1, none⟩ = some (.int .i64 su) := cell_later c qu_1
  replace qx_0 : w5.cell? ⟨w3.heap.size + 1, 0, none⟩ = some (.bool false) := cell_later c qx_0
  replace qx_1 : w5.cell? ⟨w3.heap.size + 1, 1, none⟩ = some (.int .i64 a) := cell_later c qx_1
  replace qx_2 : w5.cell? ⟨w3.heap.size + 1, 2, none⟩ = some (.string ⟨#[]⟩) := cell_later c qx_2
  replace qy_0 : w5.cell? ⟨w3.heap.size + 1 + 1, 0, none⟩ = some (.bool false) := cell_later c qy_0
  replace qy_1 : w5.cell? ⟨w3.heap.size + 1 + 1, 1, none⟩ = some (.int .i64 b) := cell_later c qy_1
  replace qy_2 : w5.cell? ⟨w3.heap.size + 1 + 1, 2, none⟩ = some (.string ⟨#[]⟩) := cell_later c qy_2
  replace qp_0 : w5.cell? ⟨w4.heap.size, 0, none⟩ = some (.bool false) := cell_later c qp_0
  replace qp_1 : w5.cell? ⟨w4.heap.size, 1, none⟩ = some (.int .i64 0) := cell_later c qp_1
  replace qp_2 : w5.cell? ⟨w4.heap.size, 2, none⟩ = some (.string ⟨#[]⟩) := cell_later c qp_2
  clear lt
  have lt : w2.heap.size < w5.heap.size := World.block_lt_of_cell? _ _ qt_0
  clear lu
  have lu : w3.heap.size < w5.heap.size := World.block_lt_of_cell? _ _ qu_0
  clear lx
  have lx : w3.heap.size + 1 < w5.heap.size := World.block_lt_of_cell? _ _ qx_0
  clear ly
  have ly : w3.heap.size + 1 + 1 < w5.heap.size := World.block_lt_of_cell? _ _ qy_0
  have lp : w4.heap.size < w5.heap.size := World.block_lt_of_cell? _ _ qp_0
  replace C := Lib.hid (bj C.out c)
  clear c
  replace qt_0 : (w5.alloc (.cells #[.bool false, .int .i64 0, .string ⟨#[]⟩] 25)).cell? ⟨w2.heap.size, 0, none⟩ = some (.int .i64 kt) := past1 _ qt_0
  replace qt_1 : (w5.alloc (.cells #[.bool false, .int .i64 0, .string ⟨#[]⟩] 25)).cell? ⟨w2.heap.size, 1, none⟩ = some (.int .i64 st) := past1 _ qt_1
  replace qu_0 : (w5.alloc (.cells #[.bool false, .int .i64 0, .string ⟨#[]⟩] 25)).cell? ⟨w3.heap.size, 0, none⟩ = some (.int .i64 ku) := past1 _ qu_0
  replace qu_1 : (w5.alloc (.cells #[.bool false, .int .i64 0, .string ⟨#[]⟩] 25)).cell? ⟨w3.heap.size, 1, none⟩ = some (.int .i64 su) := past1 _ qu_1
  replace qx_0 : (w5.alloc (.cells #[.bool false, .int .i64 0, .string ⟨#[]⟩] 25)).cell? ⟨w3.heap.size + 1, 0, none⟩ = some (.bool false) := past1 _ qx_0
  replace qx_1 : (w5.alloc (.cells #[.bool false, .int .i64 0, .string ⟨#[]⟩] 25)).cell? ⟨w3.heap.size + 1, 1, none⟩ = some (.int .i64 a) := past1 _ qx_1
  replace qx_2 : (w5.alloc (.cells #[.bool false, .int .i64 0, .string ⟨#[]⟩] 25)).cell? ⟨w3.heap.size + 1, 2, none⟩ = some (.string ⟨#[]⟩) := past1 _ qx_2
  replace qy_0 : (w5.alloc (.cells #[.bool false, .int .i64 0, .string ⟨#[]⟩] 25)).cell? ⟨w3.heap.size + 1 + 1, 0, none⟩ = some (.bool false) := past1 _ qy_0
  replace qy_1 : (w5.alloc (.cells #[.bool false, .int .i64 0, .string ⟨#[]⟩] 25)).cell? ⟨w3.heap.size + 1 + 1, 1, none⟩ = some (.int .i64 b) := past1 _ qy_1
  replace qy_2 : (w5.alloc (.cells #[.bool false, .int .i64 0, .string ⟨#[]⟩] 25)).cell? ⟨w3.heap.size + 1 + 1, 2, none⟩ = some (.string ⟨#[]⟩) := past1 _ qy_2
  replace qp_0 : (w5.alloc (.cells #[.bool false, .int .i64 0, .string ⟨#[]⟩] 25)).cell? ⟨w4.heap.size, 0, none⟩ = some (.bool false) := past1 _ qp_0
  replace qp_1 : (w5.alloc (.cells #[.bool false, .int .i64 0, .string ⟨#[]⟩] 25)).cell? ⟨w4.heap.size, 1, none⟩ = some (.int .i64 0) := past1 _ qp_1
  replace qp_2 : (w5.alloc (.cells #[.bool false, .int .i64 0, .string ⟨#[]⟩] 25)).cell? ⟨w4.heap.size, 2, none⟩ = some (.string ⟨#[]⟩) := past1 _ qp_2
  have qq_0 : (w5.alloc (.cells #[.bool false, .int .i64 0, .string ⟨#[]⟩] 25)).cell? ⟨w5.heap.size, 0, none⟩ = some (.bool false) := World.cell?_alloc_at _ _ _ _ (rfl)
  have qq_1 : (w5.alloc (.cells #[.bool false, .int .i64 0, .string ⟨#[]⟩] 25)).cell? ⟨w5.heap.size, 1, none⟩ = some (.int .i64 0) := World.cell?_alloc_at _ _ _ _ (rfl)
  have qq_2 : (w5.alloc (.cells #[.bool false, .int .i64 0, .string ⟨#[]⟩] 25)).cell? ⟨w5.heap.size, 2, none⟩ = some (.string ⟨#[]⟩) := World.cell?_alloc_at _ _ _ _ (rfl)
  replace C := Lib.hid (ba C.out (.cells #[.bool false, .int .i64 0, .string ⟨#[]⟩] 25))
  go_wp2_with fail
  refine (A3.out _).mono ?_
  rintro e w6 ⟨rfl, c⟩
  replace qt_0 : w6.cell? ⟨w2.heap.size, 0, none⟩ = some (.int .i64 kt) := cell_later c qt_0
  replace qt_1 : w6.cell? ⟨w2.heap.size, 1, none⟩ = some (.int .i64 st) := cell_later c qt_1
  replace qu_0 : w6.cell? ⟨w3.heap.size, 0, none⟩ = some (.int .i64 ku) := cell_later c qu_0
  replace qu_1 : w6.cell? ⟨w3.heap.size, 1, none⟩ = some (.int .i64 su) := cell_later c qu_1
  replace qx_0 : w6.cell? ⟨w3.heap.size + 1, 0, none⟩ = some (.bool false) := cell_later c qx_0
  replace qx_1 : w6.cell? ⟨w3.heap.size + 1, 1, none⟩ = some (.int .i64 a) := cell_later c qx_1
  replace qx_2 : w6.cell? ⟨w3.heap.size + 1, 2, none⟩ = some (.string ⟨#[]⟩) := cell_later c qx_2
  replace qy_0 : w6.cell? ⟨w3.heap.size + 1 + 1, 0, none⟩ = some (.bool false) := cell_later c qy_0
  replace qy_1 : w6.cell? ⟨w3.heap.size + 1 + 1, 1, none⟩ = some (.int .i64 b) := cell_later c qy_1
  replace qy_2 : w6.cell? ⟨w3.heap.size + 1 + 1, 2, none⟩ = some (.string ⟨#[]⟩) := cell_later c qy_2
  replace qp_0 : w6.cell? ⟨w4.heap.size, 0, none⟩ = some (.bool false) := cell_later c qp_0
  replace qp_1 : w6.cell? ⟨w4.heap.size, 1, none⟩ = some (.int .i64 0) := cell_later c qp_1
  replace qp_2 : w6.cell? ⟨w4.heap.size, 2, none⟩ = some (.string ⟨#[]⟩) := cell_later c qp_2
  replace qq_0 : w6.cell? ⟨w5.heap.size, 0, none⟩ = some (.bool false) := cell_later c qq_0
  replace qq_1 : w6.cell? ⟨w5.heap.size, 1, none⟩ = some (.int .i64 0) := cell_later c qq_1
  replace qq_2 : w6.cell? ⟨w5.heap.size, 2, none⟩ = some (.string ⟨#[]⟩) := cell_later c qq_2
  clear lt
  have lt : w2.heap.size < w6.heap.size := World.block_lt_of_cell? _ _ qt_0
  clear lu
  have lu : w3.heap.size < w6.heap.size := World.block_lt_of_cell? _ _ qu_0
  clear lx
  have lx : w3.heap.size + 1 < w6.heap.size := World.block_lt_of_cell? _ _ qx_0
  clear ly
  have ly : w3.heap.size + 1 + 1 < w6.heap.size := World.block_lt_of_cell? _ _ qy_0
  clear lp
  have lp : w4.heap.size < w6.heap.size := World.block_lt_of_cell? _ _ qp_0
  have lq : w5.heap.size < w6.heap.size := World.block_lt_of_cell? _ _ qq_0
  replace C := Lib.hid (bj C.out c)
  clear c
  replace qt_0 : (w6.alloc (.cells #[.bool mb, .int .i64 mn, .string mS] 25)).cell? ⟨w2.heap.size, 0, none⟩ = some (.int .i64 kt) := past1 _ qt_0
  replace qt_1 : (w6.alloc (.cells #[.bool mb, .int .i64 mn, .string mS] 25)).cell? ⟨w2.heap.size, 1, none⟩ = some (.int .i64 st) := past1 _ qt_1
  replace qu_0 : (w6.alloc (.cells #[.bool mb, .int .i64 mn, .string mS] 25)).cell? ⟨w3.heap.size, 0, none⟩ = some (.int .i64 ku) := past1 _ qu_0
  replace qu_1 : (w6.alloc (.cells #[.bool mb, .int .i64 mn, .string mS] 25)).cell? ⟨w3.heap.size, 1, none⟩ = some (.int .i64 su) := past1 _ qu_1
  replace qx_0 : (w6.alloc (.cells #[.bool mb, .int .i64 mn, .string mS] 25)).cell? ⟨w3.heap.size + 1, 0, none⟩ = some (.bool false) := past1 _ qx_0
  replace qx_1 : (w6.alloc (.cells #[.bool mb, .int .i64 mn, .string mS] 25)).cell? ⟨w3.heap.size + 1, 1, none⟩ = some (.int .i64 a) := past1 _ qx_1
  replace qx_2 : (w6.alloc (.cells #[.bool mb, .int .i64 mn, .string mS] 25)).cell? ⟨w3.heap.size + 1, 2, none⟩ = some (.string ⟨#[]⟩) := past1 _ qx_2
  replace qy_0 : (w6.alloc (.cells #[.bool mb, .int .i64 mn, .string mS] 25)).cell? ⟨w3.heap.size + 1 + 1, 0, none⟩ = some (.bool false) := past1 _ qy_0
  replace qy_1 : (w6.alloc (.cells #[.bool mb, .int .i64 mn, .string mS] 25)).cell? ⟨w3.heap.size + 1 + 1, 1, none⟩ = some (.int .i64 b) := past1 _ qy_1
  replace qy_2 : (w6.alloc (.cells #[.bool mb, .int .i64 mn, .string mS] 25)).cell? ⟨w3.heap.size + 1 + 1, 2, none⟩ = some (.string ⟨#[]⟩) := past1 _ qy_2
  replace qp_0 : (w6.alloc (.cells #[.bool mb, .int .i64 mn, .string mS] 25)).cell? ⟨w4.heap.size, 0, none⟩ = some (.bool false) := past1 _ qp_0
  replace qp_1 : (w6.alloc (.cells #[.bool mb, .int .i64 mn, .string mS] 25)).cell? ⟨w4.heap.size, 1, none⟩ = some (.int .i64 0) := past1 _ qp_1
  replace qp_2 : (w6.alloc (.cells #[.bool mb, .int .i64 mn, .string mS] 25)).cell? ⟨w4.heap.size, 2, none⟩ = some (.string ⟨#[]⟩) := past1 _ qp_2
  replace qq_0 : (w6.alloc (.cells #[.bool mb, .int .i64 mn, .string mS] 25)).cell? ⟨w5.heap.size, 0, none⟩ = some (.bool false) := past1 _ qq_0
  replace qq_1 : (w6.alloc (.cells #[.bool mb, .int .i64 mn, .string mS] 25)).cell? ⟨w5.heap.size, 1, none⟩ = some (.int .i64 0) := past1 _ qq_1
  replace qq_2 : (w6.alloc (.cells #[.bool mb, .int .i64 mn, .string mS] 25)).cell? ⟨w5.heap.size, 2, none⟩ = some (.string ⟨#[]⟩) := past1 _ qq_2
  have qm_0 : (w6.alloc (.cells #[.bool mb, .int .i64 mn, .string mS] 25)).cell? ⟨w6.heap.size, 0, none⟩ = some (.bool mb) := World.cell?_alloc_at _ _ _ _ (rfl)
  have qm_1 : (w6.alloc (.cells #[.bool mb, .int .i64 mn, .string mS] 25)).cell? ⟨w6.heap.size, 1, none⟩ = some (.int .i64 mn) := World.cell?_alloc_at _ _ _ _ (rfl)
  have qm_2 : (w6.alloc (.cells #[.bool mb, .int .i64 mn, .string mS] 25)).cell? ⟨w6.heap.size, 2, none⟩ = some (.string mS) := World.cell?_alloc_at _ _ _ _ (rfl)
  replace C := Lib.hid (ba C.out (.cells #[.bool mb, .int .i64 mn, .string mS] 25))
  go_wp2_with fail
  refine (A4.out _).mono ?_
  rintro e w7 ⟨rfl, c⟩
  replace qt_0 : w7.cell? ⟨w2.heap.size, 0, none⟩ = some (.int .i64 kt) := cell_later c qt_0
  replace qt_1 : w7.cell? ⟨w2.heap.size, 1, none⟩ = some (.int .i64 st) := cell_later c qt_1
  replace qu_0 : w7.cell? ⟨w3.heap.size, 0, none⟩ = some (.int .i64 ku) := cell_later c qu_0
  replace qu_1 : w7.cell? ⟨w3.heap.size, 1, none⟩ = some (.int .i64 su) := cell_later c qu_1
  replace qx_0 : w7.cell? ⟨w3.heap.size + 1, 0, none⟩ = some (.bool false) := cell_later c qx_0
  replace qx_1 : w7.cell? ⟨w3.heap.size + 1, 1, none⟩ = some (.int .i64 a) := cell_later c qx_1
  replace qx_2 : w7.cell? ⟨w3.heap.size + 1, 2, none⟩ = some (.string ⟨#[]⟩) := cell_later c qx_2
  replace qy_0 : w7.cell? ⟨w3.heap.size + 1 + 1, 0, none⟩ = some (.bool false) := cell_later c qy_0
  replace qy_1 : w7.cell? ⟨w3.heap.size + 1 + 1, 1, none⟩ = some (.int .i64 b) := cell_later c qy_1
  replace qy_2 : w7.cell? ⟨w3.heap.size + 1 + 1, 2, none⟩ = some (.string ⟨#[]⟩) := cell_later c qy_2
  replace qp_0 : w7.cell? ⟨w4.heap.size, 0, none⟩ = some (.bool false) := cell_later c qp_0
  replace qp_1 : w7.cell? ⟨w4.heap.size, 1, none⟩ = some (.int .i64 0) := cell_later c qp_1
  replace qp_2 : w7.cell? ⟨w4.heap.size, 2, none⟩ = some (.string ⟨#[]⟩) := cell_later c qp_2
  replace qq_0 : w7.cell? ⟨w5.heap.size, 0, none⟩ = some (.bool false) := cell_later c qq_0
  replace qq_1 : w7.cell? ⟨w5.heap.size, 1, none⟩ = some (.int .i64 0) := cell_later c qq_1
  replace qq_2 : w7.cell? ⟨w5.heap.size, 2, none⟩ = some (.string ⟨#[]⟩) := cell_later c qq_2
  replace qm_0 : w7.cell? ⟨w6.heap.size, 0, none⟩ = some (.bool mb) := cell_later c qm_0
  replace qm_1 : w7.cell? ⟨w6.heap.size, 1, none⟩ = some (.int .i64 mn) := cell_later c qm_1
  replace qm_2 : w7.cell? ⟨w6.heap.size, 2, none⟩ = some (.string mS) := cell_later c qm_2
  clear lt
  have lt : w2.heap.size < w7.heap.size := World.block_lt_of_cell? _ _ qt_0
  clear lu
  have lu : w3.heap.size < w7.heap.size := World.block_lt_of_cell? _ _ qu_0
  clear lx
  have lx : w3.heap.size + 1 < w7.heap.size := World.block_lt_of_cell? _ _ qx_0
  clear ly
  have ly : w3.heap.size + 1 + 1 < w7.heap.size := World.block_lt_of_cell? _ _ qy_0
  clear lp
  have lp : w4.heap.size < w7.heap.size := World.block_lt_of_cell? _ _ qp_0
  clear lq
  have lq : w5.heap.size < w7.heap.size := World.block_lt_of_cell? _ _ qq_0
  have lm : w6.heap.size < w7.heap.size := World.block_lt_of_cell? _ _ qm_0
  replace C := Lib.hid (bj C.out c)
  clear c
  replace qt_0 : (w7.alloc (.cells #[.bool mb, .int .i64 mn, .string mS] 25)).cell? ⟨w2.heap.size, 0, none⟩ = some (.int .i64 kt) := past1 _ qt_0
  replace qt_1 : (w7.alloc (.cells #[.bool mb, .int .i64 mn, .string mS] 25)).cell? ⟨w2.heap.size, 1, none⟩ = some (.int .i64 st) := past1 _ qt_1
  replace qu_0 : (w7.alloc (.cells #[.bool mb, .int .i64 mn, .string mS] 25)).cell? ⟨w3.heap.size, 0, none⟩ = some (.int .i64 ku) := past1 _ qu_0
  replace qu_1 : (w7.alloc (.cells #[.bool mb, .int .i64 mn, .string mS] 25)).cell? ⟨w3.heap.size, 1, none⟩ = some (.int .i64 su) := past1 _ qu_1
  replace qx_0 : (w7.alloc (.cells #[.bool mb, .int .i64 mn, .string mS] 25)).cell? ⟨w3.heap.size + 1, 0, none⟩ = some (.bool false) := past1 _ qx_0
  replace qx_1 : (w7.alloc (.cells #[.bool mb, .int .i64 mn, .string mS] 25)).cell? ⟨w3.heap.size + 1, 1, none⟩ = some (.int .i64 a) := past1 _ qx_1
  replace qx_2 : (w7.alloc (.cells #[.bool mb, .int .i64 mn, .string mS] 25)).cell? ⟨w3.heap.size + 1, 2, none⟩ = some (.string ⟨#[]⟩) := past1 _ qx_2
  replace qy_0 : (w7.alloc (.cells #[.bool mb, .int .i64 mn, .string mS] 25)).cell? ⟨w3.heap.size + 1 + 1, 0, none⟩ = some (.bool false) := past1 _ qy_0
  replace qy_1 : (w7.alloc (.cells #[.bool mb, .int .i64 mn, .string mS] 25)).cell? ⟨w3.heap.size + 1 + 1, 1, none⟩ = some (.int .i64 b) := past1 _ qy_1
  replace qy_2 : (w7.alloc (.cells #[.bool mb, .int .i64 mn, .string mS] 25)).cell? ⟨w3.heap.size + 1 + 1, 2, none⟩ = some (.string ⟨#[]⟩) := past1 _ qy_2
  replace qp_0 : (w7.alloc (.cells #[.bool mb, .int .i64 mn, .string mS] 25)).cell? ⟨w4.heap.size, 0, none⟩ = some (.bool false) := past1 _ qp_0
  replace qp_1 : (w7.alloc (.cells #[.bool mb, .int .i64 mn, .string mS] 25)).cell? ⟨w4.heap.size, 1, none⟩ = some (.int .i64 0) := past1 _ qp_1
  replace qp_2 : (w7.alloc (.cells #[.bool mb, .int .i64 mn, .string mS] 25)).cell? ⟨w4.heap.size, 2, none⟩ = some (.string ⟨#[]⟩) := past1 _ qp_2
  replace qq_0 : (w7.alloc (.cells #[.bool mb, .int .i64 mn, .string mS] 25)).cell? ⟨w5.heap.size, 0, none⟩ = some (.bool false) := past1 _ qq_0
  replace qq_1 : (w7.alloc (.cells #[.bool mb, .int .i64 mn, .string mS] 25)).cell? ⟨w5.heap.size, 1, none⟩ = some (.int .i64 0) := past1 _ qq_1
  replace qq_2 : (w7.alloc (.cells #[.bool mb, .int .i64 mn, .string mS] 25)).cell? ⟨w5.heap.size, 2, none⟩ = some (.string ⟨#[]⟩) := past1 _ qq_2
  replace qm_0 : (w7.alloc (.cells #[.bool mb, .int .i64 mn, .string mS] 25)).cell? ⟨w6.heap.size, 0, none⟩ = some (.bool mb) := past1 _ qm_0
  replace qm_1 : (w7.alloc (.cells #[.bool mb, .int .i64 mn, .string mS] 25)).cell? ⟨w6.heap.size, 1, none⟩ = some (.int .i64 mn) := past1 _ qm_1
  replace qm_2 : (w7.alloc (.cells #[.bool mb, .int .i64 mn, .string mS] 25)).cell? ⟨w6.heap.size, 2, none⟩ = some (.string mS) := past1 _ qm_2
  have qn_0 : (w7.alloc (.cells #[.bool mb, .int .i64 mn, .string mS] 25)).cell? ⟨w7.heap.size, 0, none⟩ = some (.bool mb) := World.cell?_alloc_at _ _ _ _ (rfl)
  have qn_1 : (w7.alloc (.cells #[.bool mb, .int .i64 mn, .string mS] 25)).cell? ⟨w7.heap.size, 1, none⟩ = some (.int .i64 mn) := World.cell?_alloc_at _ _ _ _ (rfl)
  have qn_2 : (w7.alloc (.cells #[.bool mb, .int .i64 mn, .string mS] 25)).cell? ⟨w7.heap.size, 2, none⟩ = some (.string mS) := World.cell?_alloc_at _ _ _ _ (rfl)
  replace C := Lib.hid (ba C.out (.cells #[.bool mb, .int .i64 mn, .string mS] 25))
  go_wp2_with fail
  refine (C1.out _).mono ?_
  rintro e w8 ⟨rfl, c⟩
  replace qt_0 : w8.cell? ⟨w2.heap.size, 0, none⟩ = some (.int .i64 kt) := cell_later c qt_0
  replace qt_1 : w8.cell? ⟨w2.heap.size, 1, none⟩ = some (.int .i64 st) := cell_later c qt_1
  replace qu_0 : w8.cell? ⟨w3.heap.size, 0, none⟩ = some (.int .i64 ku) := cell_later c qu_0
  replace qu_1 : w8.cell? ⟨w3.heap.size, 1, none⟩ = some (.int .i64 su) := cell_later c qu_1
  replace qx_0 : w8.cell? ⟨w3.heap.size + 1, 0, none⟩ = some (.bool false) := cell_later c qx_0
  replace qx_1 : w8.cell? ⟨w3.heap.size + 1, 1, none⟩ = some (.int .i64 a) := cell_later c qx_1
  replace qx_2 : w8.cell? ⟨w3.heap.size + 1, 2, none⟩ = some (.string ⟨#[]⟩) := cell_later c qx_2
  replace qy_0 : w8.cell? ⟨w3.heap.size + 1 + 1, 0, none⟩ = some (.bool false) := cell_later c qy_0
  replace qy_1 : w8.cell? ⟨w3.heap.size + 1 + 1, 1, none⟩ = some (.int .i64 b) := cell_later c qy_1
  replace qy_2 : w8.cell? ⟨w3.heap.size + 1 + 1, 2, none⟩ = some (.string ⟨#[]⟩) := cell_later c qy_2
  replace qp_0 : w8.cell? ⟨w4.heap.size, 0, none⟩ = some (.bool false) := cell_later c qp_0
  replace qp_1 : w8.cell? ⟨w4.heap.size, 1, none⟩ = some (.int .i64 0) := cell_later c qp_1
  replace qp_2 : w8.cell? ⟨w4.heap.size, 2, none⟩ = some (.string ⟨#[]⟩) := cell_later c qp_2
  replace qq_0 : w8.cell? ⟨w5.heap.size, 0, none⟩ = some (.bool false) := cell_later c qq_0
  replace qq_1 : w8.cell? ⟨w5.heap.size, 1, none⟩ = some (.int .i64 0) := cell_later c qq_1
  replace qq_2 : w8.cell? ⟨w5.heap.size, 2, none⟩ = some (.string ⟨#[]⟩) := cell_later c qq_2
  replace qm_0 : w8.cell? ⟨w6.heap.size, 0, none⟩ = some (.bool mb) := cell_later c qm_0
  replace qm_1 : w8.cell? ⟨w6.heap.size, 1, none⟩ = some (.int .i64 mn) := cell_later c qm_1
  replace qm_2 : w8.cell? ⟨w6.heap.size, 2, none⟩ = some (.string mS) := cell_later c qm_2
  replace qn_0 : w8.cell? ⟨w7.heap.size, 0, none⟩ = some (.bool mb) := cell_later c qn_0
  replace qn_1 : w8.cell? ⟨w7.heap.size, 1, none⟩ = some (.int .i64 mn) := cell_later c qn_1
  replace qn_2 : w8.cell? ⟨w7.heap.size, 2, none⟩ = some (.string mS) := cell_later c qn_2
  clear lt
  have lt : w2.heap.size < w8.heap.size := World.block_lt_of_cell? _ _ qt_0
  clear lu
  have lu : w3.heap.size < w8.heap.size := World.block_lt_of_cell? _ _ qu_0
  clear lx
  have lx : w3.heap.size + 1 < w8.heap.size := World.block_lt_of_cell? _ _ qx_0
  clear ly
  have ly : w3.heap.size + 1 + 1 < w8.heap.size := World.block_lt_of_cell? _ _ qy_0
  clear lp
  have lp : w4.heap.size < w8.heap.size := World.block_lt_of_cell? _ _ qp_0
  clear lq
  have lq : w5.heap.size < w8.heap.size := World.block_lt_of_cell? _ _ qq_0
  clear lm
  have lm : w6.heap.size < w8.heap.size := World.block_lt_of_cell? _ _ qm_0
  have ln : w7.heap.size < w8.heap.size := World.block_lt_of_cell? _ _ qn_0
  replace C := Lib.hid (bj C.out c)
  clear c
  go_wp2_with fail
  refine (C2.out _).mono ?_
  rintro e w9 ⟨rfl, c⟩
  replace qt_0 : w9.cell? ⟨w2.heap.size, 0, none⟩ = some (.int .i64 kt) := cell_later c qt_0
  replace qt_1 : w9.cell? ⟨w2.heap.size, 1, none⟩ = some (.int .i64 st) := cell_later c qt_1
  replace qu_0 : w9.cell? ⟨w3.heap.size, 0, none⟩ = some (.int .i64 ku) := cell_later c qu_0
  replace qu_1 : w9.cell? ⟨w3.heap.size, 1, none⟩ = some (.int .i64 su) := cell_later c qu_1
  replace qx_0 : w9.cell? ⟨w3.heap.size + 1, 0, none⟩ = some (.bool false) := cell_later c qx_0
  replace qx_1 : w9.cell? ⟨w3.heap.size + 1, 1, none⟩ = some (.int .i64 a) := cell_later c qx_1
  replace qx_2 : w9.cell? ⟨w3.heap.size + 1, 2, none⟩ = some (.string ⟨#[]⟩) := cell_later c qx_2
  replace qy_0 : w9.cell? ⟨w3.heap.size + 1 + 1, 0, none⟩ = some (.bool false) := cell_later c qy_0
  replace qy_1 : w9.cell? ⟨w3.heap.size + 1 + 1, 1, none⟩ = some (.int .i64 b) := cell_later c qy_1
  replace qy_2 : w9.cell? ⟨w3.heap.size + 1 + 1, 2, none⟩ = some (.string ⟨#[]⟩) := cell_later c qy_2
  replace qp_0 : w9.cell? ⟨w4.heap.size, 0, none⟩ = some (.bool false) := cell_later c qp_0
  replace qp_1 : w9.cell? ⟨w4.heap.size, 1, none⟩ = some (.int .i64 0) := cell_later c qp_1
  replace qp_2 : w9.cell? ⟨w4.heap.size, 2, none⟩ = some (.string ⟨#[]⟩) := cell_later c qp_2
  replace qq_0 : w9.cell? ⟨w5.heap.size, 0, none⟩ = some (.bool false) := cell_later c qq_0
  replace qq_1 : w9.cell? ⟨w5.heap.size, 1, none⟩ = some (.int .i64 0) := cell_later c qq_1
  replace qq_2 : w9.cell? ⟨w5.heap.size, 2, none⟩ = some (.string ⟨#[]⟩) := cell_later c qq_2
  replace qm_0 : w9.cell? ⟨w6.heap.size, 0, none⟩ = some (.bool mb) := cell_later c qm_0
  replace qm_1 : w9.cell? ⟨w6.heap.size, 1, none⟩ = some (.int .i64 mn) := cell_later c qm_1
  replace qm_2 : w9.cell? ⟨w6.heap.size, 2, none⟩ = some (.string mS) := cell_later c qm_2
  replace qn_0 : w9.cell? ⟨w7.heap.size, 0, none⟩ = some (.bool mb) := cell_later c qn_0
  replace qn_1 : w9.cell? ⟨w7.heap.size, 1, none⟩ = some (.int .i64 mn) := cell_later c qn_1
  replace qn_2 : w9.cell? ⟨w7.heap.size, 2, none⟩ = some (.string mS) := cell_later c qn_2
  clear lt
  have lt : w2.heap.size < w9.heap.size := World.block_lt_of_cell? _ _ qt_0
  clear lu
  have lu : w3.heap.size < w9.heap.size := World.block_lt_of_cell? _ _ qu_0
  clear lx
  have lx : w3.heap.size + 1 < w9.heap.size := World.block_lt_of_cell? _ _ qx_0
  clear ly
  have ly : w3.heap.size + 1 + 1 < w9.heap.size := World.block_lt_of_cell? _ _ qy_0
  clear lp
  have lp : w4.heap.size < w9.heap.size := World.block_lt_of_cell? _ _ qp_0
  clear lq
  have lq : w5.heap.size < w9.heap.size := World.block_lt_of_cell? _ _ qq_0
  clear lm
  have lm : w6.heap.size < w9.heap.size := World.block_lt_of_cell? _ _ qm_0
  clear ln
  have ln : w7.heap.size < w9.heap.size := World.block_lt_of_cell? _ _ qn_0
  replace C := Lib.hid (bj C.out c)
  clear c
  go_wp2_with fail
  go_ret
  first | exact ⟨by simp, C.out⟩ | exact ⟨by simp, C.out.drew⟩ | exact ⟨by simp, C.out.drew.drew⟩
set_option maxRecDepth 100000 in
set_option maxHeartbeats 4000000 in
theorem turns_yes (a b : Int) (s u : UInt8) (kt st ku su mn m1 c d pn kv sv bn : Int) (mb : Bool) (mS : ByteArray) (w : World) (hE : VEnv w) (n1 : NumK s kt st) (n2 : NumK u ku su) (a1 : AK (.int .u8 43) (.agg #[.bool false, .int .i64 a, .string ⟨#[]⟩]) (.agg #[.bool false, .int .i64 b, .string ⟨#[]⟩]) (.agg #[.int .i64 kt, .int .i64 st]) (.agg #[.int .i64 ku, .int .i64 su]) false pn ⟨#[]⟩ 0) (a2 : AK (.int .u8 43) (.agg #[.bool false, .int .i64 b, .string ⟨#[]⟩]) (.agg #[.bool false, .int .i64 a, .string ⟨#[]⟩]) (.agg #[.int .i64 ku, .int .i64 su]) (.agg #[.int .i64 kt, .int .i64 st]) false pn ⟨#[]⟩ 0)
    (a3 : AK (.int .u8 42) (.agg #[.bool false, .int .i64 a, .string ⟨#[]⟩]) (.agg #[.bool false, .int .i64 b, .string ⟨#[]⟩]) (.agg #[.int .i64 kt, .int .i64 st]) (.agg #[.int .i64 ku, .int .i64 su]) mb mn mS m1) (a4 : AK (.int .u8 42) (.agg #[.bool false, .int .i64 b, .string ⟨#[]⟩]) (.agg #[.bool false, .int .i64 a, .string ⟨#[]⟩]) (.agg #[.int .i64 ku, .int .i64 su]) (.agg #[.int .i64 kt, .int .i64 st]) mb mn mS m1) (k1 : CK (.agg #[.bool false, .int .i64 a, .string ⟨#[]⟩]) (.agg #[.bool false, .int .i64 b, .string ⟨#[]⟩]) (.agg #[.int .i64 kt, .int .i64 st]) (.agg #[.int .i64 ku, .int .i64 su]) c) (k2 : CK (.agg #[.bool false, .int .i64 b, .string ⟨#[]⟩]) (.agg #[.bool false, .int .i64 a, .string ⟨#[]⟩]) (.agg #[.int .i64 ku, .int .i64 su]) (.agg #[.int .i64 kt, .int .i64 st]) d) (hw : IntKind.i64.wrap (-d) = c)
    (t1 : AtyK 11 (.int .u8 43) kt st ku su kv sv true) (a5 : AK (.int .u8 45) (.agg #[.bool false, .int .i64 pn, .string ⟨#[]⟩]) (.agg #[.bool false, .int .i64 b, .string ⟨#[]⟩]) (.agg #[.int .i64 kv, .int .i64 sv]) (.agg #[.int .i64 ku, .int .i64 su]) false bn ⟨#[]⟩ 0) (k3 : CK (.agg #[.bool false, .int .i64 bn, .string ⟨#[]⟩]) (.agg #[.bool false, .int .i64 a, .string ⟨#[]⟩]) (.agg #[.int .i64 kv, .int .i64 sv]) (.agg #[.int .i64 kt, .int .i64 st]) 0) :
    Calls Tryd.prog 7 #[.int .i64 a, .int .i64 b, .int .u8 (s.toNat : Int), .int .u8 (u.toNat : Int)] w (BoolS w true) := by
  have HE := Lib.hid hE
  have N1 := Lib.hid n1
  have N2 := Lib.hid n2
  have A1 := Lib.hid a1
  have A2 := Lib.hid a2
  have A3 := Lib.hid a3
  have A4 := Lib.hid a4
  have C1 := Lib.hid k1
  have C2 := Lib.hid k2
  clear hE n1 n2 a1 a2 a3 a4 k1 k2
  have T1 := Lib.hid t1
  have A5 := Lib.hid a5
  have C3 := Lib.hid k3
  clear t1 a5 k3
  go_enter Tryd.func7, Tryd.ntmps7
  go_wp2_with fail
  refine (examples10 _ HE.out).mono ?_
  rintro e w1 ⟨rfl, c⟩
  have C := Lib.hid c
  clear c
  go_wp2_with fail
  refine (N1.out _).mono ?_
  rintro e w2 ⟨rfl, c⟩
  replace C := Lib.hid (bj C.out c)
  clear c
  have qt_0 : (w2.alloc (.cells #[.int .i64 kt, .int .i64 st] 23)).cell? ⟨w2.heap.size, 0, none⟩ = some (.int .i64 kt) := World.cell?_alloc_at _ _ _ _ (rfl)
  have qt_1 : (w2.alloc (.cells #[.int .i64 kt, .int .i64 st] 23)).cell? ⟨w2.heap.size, 1, none⟩ = some (.int .i64 st) := World.cell?_alloc_at _ _ _ _ (rfl)
  replace C := Lib.hid (ba C.out (.cells #[.int .i64 kt, .int .i64 st] 23))
  go_wp2_with fail
  refine (N2.out _).mono ?_
  rintro e w3 ⟨rfl, c⟩
  replace qt_0 : w3.cell? ⟨w2.heap.size, 0, none⟩ = some (.int .i64 kt) := cell_later c qt_0
  replace qt_1 : w3.cell? ⟨w2.heap.size, 1, none⟩ = some (.int .i64 st) := cell_later c qt_1
  have lt : w2.heap.size < w3.heap.size := World.block_lt_of_cell? _ _ qt_0
  replace C := Lib.hid (bj C.out c)
  clear c
  replace qt_0 : (w3.alloc (.cells #[.int .i64 ku, .int .i64 su] 23)).cell? ⟨w2.heap.size, 0, none⟩ = some (.int .i64 kt) := past1 _ qt_0
  replace qt_1 : (w3.alloc (.cells #[.int .i64 ku, .int .i64 su] 23)).cell? ⟨w2.heap.size, 1, none⟩ = some (.int .i64 st) := past1 _ qt_1
  have qu_0 : (w3.alloc (.cells #[.int .i64 ku, .int .i64 su] 23)).cell? ⟨w3.heap.size, 0, none⟩ = some (.int .i64 ku) := World.cell?_alloc_at _ _ _ _ (rfl)
  have qu_1 : (w3.alloc (.cells #[.int .i64 ku, .int .i64 su] 23)).cell? ⟨w3.heap.size, 1, none⟩ = some (.int .i64 su) := World.cell?_alloc_at _ _ _ _ (rfl)
  replace C := Lib.hid (ba C.out (.cells #[.int .i64 ku, .int .i64 su] 23))
  replace qt_0 : ((w3.alloc (.cells #[.int .i64 ku, .int .i64 su] 23)).alloc (.cells #[.bool false, .int .i64 a, .string ⟨#[]⟩] 25)).cell? ⟨w2.heap.size, 0, none⟩ = some (.int .i64 kt) := past1 _ qt_0
  replace qt_1 : ((w3.alloc (.cells #[.int .i64 ku, .int .i64 su] 23)).alloc (.cells #[.bool false, .int .i64 a, .string ⟨#[]⟩] 25)).cell? ⟨w2.heap.size, 1, none⟩ = some (.int .i64 st) := past1 _ qt_1
  replace qu_0 : ((w3.alloc (.cells #[.int .i64 ku, .int .i64 su] 23)).alloc (.cells #[.bool false, .int .i64 a, .string ⟨#[]⟩] 25)).cell? ⟨w3.heap.size, 0, none⟩ = some (.int .i64 ku) := past1 _ qu_0
  replace qu_1 : ((w3.alloc (.cells #[.int .i64 ku, .int .i64 su] 23)).alloc (.cells #[.bool false, .int .i64 a, .string ⟨#[]⟩] 25)).cell? ⟨w3.heap.size, 1, none⟩ = some (.int .i64 su) := past1 _ qu_1
  have qx_0 : ((w3.alloc (.cells #[.int .i64 ku, .int .i64 su] 23)).alloc (.cells #[.bool false, .int .i64 a, .string ⟨#[]⟩] 25)).cell? ⟨w3.heap.size + 1, 0, none⟩ = some (.bool false) := World.cell?_alloc_at _ _ _ _ (by simp)
  have qx_1 : ((w3.alloc (.cells #[.int .i64 ku, .int .i64 su] 23)).alloc (.cells #[.bool false, .int .i64 a, .string ⟨#[]⟩] 25)).cell? ⟨w3.heap.size + 1, 1, none⟩ = some (.int .i64 a) := World.cell?_alloc_at _ _ _ _ (by simp)
  have qx_2 : ((w3.alloc (.cells #[.int .i64 ku, .int .i64 su] 23)).alloc (.cells #[.bool false, .int .i64 a, .string ⟨#[]⟩] 25)).cell? ⟨w3.heap.size + 1, 2, none⟩ = some (.string ⟨#[]⟩) := World.cell?_alloc_at _ _ _ _ (by simp)
  replace C := Lib.hid (ba C.out (.cells #[.bool false, .int .i64 a, .string ⟨#[]⟩] 25))
  replace qt_0 : (((w3.alloc (.cells #[.int .i64 ku, .int .i64 su] 23)).alloc (.cells #[.bool false, .int .i64 a, .string ⟨#[]⟩] 25)).alloc (.cells #[.bool false, .int .i64 b, .string ⟨#[]⟩] 25)).cell? ⟨w2.heap.size, 0, none⟩ = some (.int .i64 kt) := past1 _ qt_0
  replace qt_1 : (((w3.alloc (.cells #[.int .i64 ku, .int .i64 su] 23)).alloc (.cells #[.bool false, .int .i64 a, .string ⟨#[]⟩] 25)).alloc (.cells #[.bool false, .int .i64 b, .string ⟨#[]⟩] 25)).cell? ⟨w2.heap.size, 1, none⟩ = some (.int .i64 st) := past1 _ qt_1
  replace qu_0 : (((w3.alloc (.cells #[.int .i64 ku, .int .i64 su] 23)).alloc (.cells #[.bool false, .int .i64 a, .string ⟨#[]⟩] 25)).alloc (.cells #[.bool false, .int .i64 b, .string ⟨#[]⟩] 25)).cell? ⟨w3.heap.size, 0, none⟩ = some (.int .i64 ku) := past1 _ qu_0
  replace qu_1 : (((w3.alloc (.cells #[.int .i64 ku, .int .i64 su] 23)).alloc (.cells #[.bool false, .int .i64 a, .string ⟨#[]⟩] 25)).alloc (.cells #[.bool false, .int .i64 b, .string ⟨#[]⟩] 25)).cell? ⟨w3.heap.size, 1, none⟩ = some (.int .i64 su) := past1 _ qu_1
  replace qx_0 : (((w3.alloc (.cells #[.int .i64 ku, .int .i64 su] 23)).alloc (.cells #[.bool false, .int .i64 a, .string ⟨#[]⟩] 25)).alloc (.cells #[.bool false, .int .i64 b, .string ⟨#[]⟩] 25)).cell? ⟨w3.heap.size + 1, 0, none⟩ = some (.bool false) := past1 _ qx_0
  replace qx_1 : (((w3.alloc (.cells #[.int .i64 ku, .int .i64 su] 23)).alloc (.cells #[.bool false, .int .i64 a, .string ⟨#[]⟩] 25)).alloc (.cells #[.bool false, .int .i64 b, .string ⟨#[]⟩] 25)).cell? ⟨w3.heap.size + 1, 1, none⟩ = some (.int .i64 a) := past1 _ qx_1
  replace qx_2 : (((w3.alloc (.cells #[.int .i64 ku, .int .i64 su] 23)).alloc (.cells #[.bool false, .int .i64 a, .string ⟨#[]⟩] 25)).alloc (.cells #[.bool false, .int .i64 b, .string ⟨#[]⟩] 25)).cell? ⟨w3.heap.size + 1, 2, none⟩ = some (.string ⟨#[]⟩) := past1 _ qx_2
  have qy_0 : (((w3.alloc (.cells #[.int .i64 ku, .int .i64 su] 23)).alloc (.cells #[.bool false, .int .i64 a, .string ⟨#[]⟩] 25)).alloc (.cells #[.bool false, .int .i64 b, .string ⟨#[]⟩] 25)).cell? ⟨w3.heap.size + 1 + 1, 0, none⟩ = some (.bool false) := World.cell?_alloc_at _ _ _ _ (by simp)
  have qy_1 : (((w3.alloc (.cells #[.int .i64 ku, .int .i64 su] 23)).alloc (.cells #[.bool false, .int .i64 a, .string ⟨#[]⟩] 25)).alloc (.cells #[.bool false, .int .i64 b, .string ⟨#[]⟩] 25)).cell? ⟨w3.heap.size + 1 + 1, 1, none⟩ = some (.int .i64 b) := World.cell?_alloc_at _ _ _ _ (by simp)
  have qy_2 : (((w3.alloc (.cells #[.int .i64 ku, .int .i64 su] 23)).alloc (.cells #[.bool false, .int .i64 a, .string ⟨#[]⟩] 25)).alloc (.cells #[.bool false, .int .i64 b, .string ⟨#[]⟩] 25)).cell? ⟨w3.heap.size + 1 + 1, 2, none⟩ = some (.string ⟨#[]⟩) := World.cell?_alloc_at _ _ _ _ (by simp)
  replace C := Lib.hid (ba C.out (.cells #[.bool false, .int .i64 b, .string ⟨#[]⟩] 25))
  go_wp2_with fail
  refine (A1.out _).mono ?_
  rintro e w4 ⟨rfl, c⟩
  replace qt_0 : w4.cell? ⟨w2.heap.size, 0, none⟩ = some (.int .i64 kt) := cell_later c qt_0
  replace qt_1 : w4.cell? ⟨w2.heap.size, 1, none⟩ = some (.int .i64 st) := cell_later c qt_1
  replace qu_0 : w4.cell? ⟨w3.heap.size, 0, none⟩ = some (.int .i64 ku) := cell_later c qu_0
  replace qu_1 : w4.cell? ⟨w3.heap.size, 1, none⟩ = some (.int .i64 su) := cell_later c qu_1
  replace qx_0 : w4.cell? ⟨w3.heap.size + 1, 0, none⟩ = some (.bool false) := cell_later c qx_0
  replace qx_1 : w4.cell? ⟨w3.heap.size + 1, 1, none⟩ = some (.int .i64 a) := cell_later c qx_1
  replace qx_2 : w4.cell? ⟨w3.heap.size + 1, 2, none⟩ = some (.string ⟨#[]⟩) := cell_later c qx_2
  replace qy_0 : w4.cell? ⟨w3.heap.size + 1 + 1, 0, none⟩ = some (.bool false) := cell_later c qy_0
  replace qy_1 : w4.cell? ⟨w3.heap.size + 1 + 1, 1, none⟩ = some (.int .i64 b) := cell_later c qy_1
  replace qy_2 : w4.cell? ⟨w3.heap.size + 1 + 1, 2, none⟩ = some (.string ⟨#[]⟩) := cell_later c qy_2
  clear lt
  have lt : w2.heap.size < w4.heap.size := World.block_lt_of_cell? _ _ qt_0
  have lu : w3.heap.size < w4.heap.size := World.block_lt_of_cell? _ _ qu_0
  have lx : w3.heap.size + 1 < w4.heap.size := World.block_lt_of_cell? _ _ qx_0
  have ly : w3.heap.size + 1 + 1 < w4.heap.size := World.block_lt_of_cell? _ _ qy_0
  replace C := Lib.hid (bj C.out c)
  clear c
  replace qt_0 : (w4.alloc (.cells #[.bool false, .int .i64 pn, .string ⟨#[]⟩] 25)).cell? ⟨w2.heap.size, 0, none⟩ = some (.int .i64 kt) := past1 _ qt_0
  replace qt_1 : (w4.alloc (.cells #[.bool false, .int .i64 pn, .string ⟨#[]⟩] 25)).cell? ⟨w2.heap.size, 1, none⟩ = some (.int .i64 st) := past1 _ qt_1
  replace qu_0 : (w4.alloc (.cells #[.bool false, .int .i64 pn, .string ⟨#[]⟩] 25)).cell? ⟨w3.heap.size, 0, none⟩ = some (.int .i64 ku) := past1 _ qu_0
  replace qu_1 : (w4.alloc (.cells #[.bool false, .int .i64 pn, .string ⟨#[]⟩] 25)).cell? ⟨w3.heap.size, 1, none⟩ = some (.int .i64 su) := past1 _ qu_1
  replace qx_0 : (w4.alloc (.cells #[.bool false, .int .i64 pn, .string ⟨#[]⟩] 25)).cell? ⟨w3.heap.size + 1, 0, none⟩ = some (.bool false) := past1 _ qx_0
  replace qx_1 : (w4.alloc (.cells #[.bool false, .int .i64 pn, .string ⟨#[]⟩] 25)).cell? ⟨w3.heap.size + 1, 1, none⟩ = some (.int .i64 a) := past1 _ qx_1
  replace qx_2 : (w4.alloc (.cells #[.bool false, .int .i64 pn, .string ⟨#[]⟩] 25)).cell? ⟨w3.heap.size + 1, 2, none⟩ = some (.string ⟨#[]⟩) := past1 _ qx_2
  replace qy_0 : (w4.alloc (.cells #[.bool false, .int .i64 pn, .string ⟨#[]⟩] 25)).cell? ⟨w3.heap.size + 1 + 1, 0, none⟩ = some (.bool false) := past1 _ qy_0
  replace qy_1 : (w4.alloc (.cells #[.bool false, .int .i64 pn, .string ⟨#[]⟩] 25)).cell? ⟨w3.heap.size + 1 + 1, 1, none⟩ = some (.int .i64 b) := past1 _ qy_1
  replace qy_2 : (w4.alloc (.cells #[.bool false, .int .i64 pn, .string ⟨#[]⟩] 25)).cell? ⟨w3.heap.size + 1 + 1, 2, none⟩ = some (.string ⟨#[]⟩) := past1 _ qy_2
  have qp_0 : (w4.alloc (.cells #[.bool false, .int .i64 pn, .string ⟨#[]⟩] 25)).cell? ⟨w4.heap.size, 0, none⟩ = some (.bool false) := World.cell?_alloc_at _ _ _ _ (rfl)
  have qp_1 : (w4.alloc (.cells #[.bool false, .int .i64 pn, .string ⟨#[]⟩] 25)).cell? ⟨w4.heap.size, 1, none⟩ = some (.int .i64 pn) := World.cell?_alloc_at _ _ _ _ (rfl)
  have qp_2 : (w4.alloc (.cells #[.bool false, .int .i64 pn, .string ⟨#[]⟩] 25)).cell? ⟨w4.heap.size, 2, none⟩ = some (.string ⟨#[]⟩) := World.cell?_alloc_at _ _ _ _ (rfl)
  replace C := Lib.hid (ba C.out (.cells #[.bool false, .int .i64 pn, .string ⟨#[]⟩] 25))
  go_wp2_with fail
  refine (A2.out _).mono ?_
  rintro e w5 ⟨rfl, c⟩
  replace qt_0 : w5.cell? ⟨w2.heap.size, 0, none⟩ = some (.int .i64 kt) := cell_later c qt_0
  replace qt_1 : w5.cell? ⟨w2.heap.size, 1, none⟩ = some (.int .i64 st) := cell_later c qt_1
  replace qu_0 : w5.cell? ⟨w3.heap.size, 0, none⟩ = some (.int .i64 ku) := cell_later c qu_0
  replace qu_1 : w5.cell? ⟨w3.heap.size, 1, none⟩ = some (.int .i64 su) := cell_later c qu_1
  replace qx_0 : w5.cell? ⟨w3.heap.size + 1, 0, none⟩ = some (.bool false) := cell_later c qx_0
  replace qx_1 : w5.cell? ⟨w3.heap.size + 1, 1, none⟩ = some (.int .i64 a) := cell_later c qx_1
  replace qx_2 : w5.cell? ⟨w3.heap.size + 1, 2, none⟩ = some (.string ⟨#[]⟩) := cell_later c qx_2
  replace qy_0 : w5.cell? ⟨w3.heap.size + 1 + 1, 0, none⟩ = some (.bool false) := cell_later c qy_0
  replace qy_1 : w5.cell? ⟨w3.heap.size + 1 + 1, 1, none⟩ = some (.int .i64 b) := cell_later c qy_1
  replace qy_2 : w5.cell? ⟨w3.heap.size + 1 + 1, 2, none⟩ = some (.string ⟨#[]⟩) := cell_later c qy_2
  replace qp_0 : w5.cell? ⟨w4.heap.size, 0, none⟩ = some (.bool false) := cell_later c qp_0
  replace qp_1 : w5.cell? ⟨w4.heap.size, 1, none⟩ = some (.int .i64 pn) := cell_later c qp_1
  replace qp_2 : w5.cell? ⟨w4.heap.size, 2, none⟩ = some (.string ⟨#[]⟩) := cell_later c qp_2
  clear lt
  have lt : w2.heap.size < w5.heap.size := World.block_lt_of_cell? _ _ qt_0
  clear lu
  have lu : w3.heap.size < w5.heap.size := World.block_lt_of_cell? _ _ qu_0
  clear lx
  have lx : w3.heap.size + 1 < w5.heap.size := World.block_lt_of_cell? _ _ qx_0
  clear ly
  have ly : w3.heap.size + 1 + 1 < w5.heap.size := World.block_lt_of_cell? _ _ qy_0
  have lp : w4.heap.size < w5.heap.size := World.block_lt_of_cell? _ _ qp_0
  replace C := Lib.hid (bj C.out c)
  clear c
  replace qt_0 : (w5.alloc (.cells #[.bool false, .int .i64 pn, .string ⟨#[]⟩] 25)).cell? ⟨w2.heap.size, 0, none⟩ = some (.int .i64 kt) := past1 _ qt_0
  replace qt_1 : (w5.alloc (.cells #[.bool false, .int .i64 pn, .string ⟨#[]⟩] 25)).cell? ⟨w2.heap.size, 1, none⟩ = some (.int .i64 st) := past1 _ qt_1
  replace qu_0 : (w5.alloc (.cells #[.bool false, .int .i64 pn, .string ⟨#[]⟩] 25)).cell? ⟨w3.heap.size, 0, none⟩ = some (.int .i64 ku) := past1 _ qu_0
  replace qu_1 : (w5.alloc (.cells #[.bool false, .int .i64 pn, .string ⟨#[]⟩] 25)).cell? ⟨w3.heap.size, 1, none⟩ = some (.int .i64 su) := past1 _ qu_1
  replace qx_0 : (w5.alloc (.cells #[.bool false, .int .i64 pn, .string ⟨#[]⟩] 25)).cell? ⟨w3.heap.size + 1, 0, none⟩ = some (.bool false) := past1 _ qx_0
  replace qx_1 : (w5.alloc (.cells #[.bool false, .int .i64 pn, .string ⟨#[]⟩] 25)).cell? ⟨w3.heap.size + 1, 1, none⟩ = some (.int .i64 a) := past1 _ qx_1
  replace qx_2 : (w5.alloc (.cells #[.bool false, .int .i64 pn, .string ⟨#[]⟩] 25)).cell? ⟨w3.heap.size + 1, 2, none⟩ = some (.string ⟨#[]⟩) := past1 _ qx_2
  replace qy_0 : (w5.alloc (.cells #[.bool false, .int .i64 pn, .string ⟨#[]⟩] 25)).cell? ⟨w3.heap.size + 1 + 1, 0, none⟩ = some (.bool false) := past1 _ qy_0
  replace qy_1 : (w5.alloc (.cells #[.bool false, .int .i64 pn, .string ⟨#[]⟩] 25)).cell? ⟨w3.heap.size + 1 + 1, 1, none⟩ = some (.int .i64 b) := past1 _ qy_1
  replace qy_2 : (w5.alloc (.cells #[.bool false, .int .i64 pn, .string ⟨#[]⟩] 25)).cell? ⟨w3.heap.size + 1 + 1, 2, none⟩ = some (.string ⟨#[]⟩) := past1 _ qy_2
  replace qp_0 : (w5.alloc (.cells #[.bool false, .int .i64 pn, .string ⟨#[]⟩] 25)).cell? ⟨w4.heap.size, 0, none⟩ = some (.bool false) := past1 _ qp_0
  replace qp_1 : (w5.alloc (.cells #[.bool false, .int .i64 pn, .string ⟨#[]⟩] 25)).cell? ⟨w4.heap.size, 1, none⟩ = some (.int .i64 pn) := past1 _ qp_1
  replace qp_2 : (w5.alloc (.cells #[.bool false, .int .i64 pn, .string ⟨#[]⟩] 25)).cell? ⟨w4.heap.size, 2, none⟩ = some (.string ⟨#[]⟩) := past1 _ qp_2
  have qq_0 : (w5.alloc (.cells #[.bool false, .int .i64 pn, .string ⟨#[]⟩] 25)).cell? ⟨w5.heap.size, 0, none⟩ = some (.bool false) := World.cell?_alloc_at _ _ _ _ (rfl)
  have qq_1 : (w5.alloc (.cells #[.bool false, .int .i64 pn, .string ⟨#[]⟩] 25)).cell? ⟨w5.heap.size, 1, none⟩ = some (.int .i64 pn) := World.cell?_alloc_at _ _ _ _ (rfl)
  have qq_2 : (w5.alloc (.cells #[.bool false, .int .i64 pn, .string ⟨#[]⟩] 25)).cell? ⟨w5.heap.size, 2, none⟩ = some (.string ⟨#[]⟩) := World.cell?_alloc_at _ _ _ _ (rfl)
  replace C := Lib.hid (ba C.out (.cells #[.bool false, .int .i64 pn, .string ⟨#[]⟩] 25))
  go_wp2_with fail
  refine (A3.out _).mono ?_
  rintro e w6 ⟨rfl, c⟩
  replace qt_0 : w6.cell? ⟨w2.heap.size, 0, none⟩ = some (.int .i64 kt) := cell_later c qt_0
  replace qt_1 : w6.cell? ⟨w2.heap.size, 1, none⟩ = some (.int .i64 st) := cell_later c qt_1
  replace qu_0 : w6.cell? ⟨w3.heap.size, 0, none⟩ = some (.int .i64 ku) := cell_later c qu_0
  replace qu_1 : w6.cell? ⟨w3.heap.size, 1, none⟩ = some (.int .i64 su) := cell_later c qu_1
  replace qx_0 : w6.cell? ⟨w3.heap.size + 1, 0, none⟩ = some (.bool false) := cell_later c qx_0
  replace qx_1 : w6.cell? ⟨w3.heap.size + 1, 1, none⟩ = some (.int .i64 a) := cell_later c qx_1
  replace qx_2 : w6.cell? ⟨w3.heap.size + 1, 2, none⟩ = some (.string ⟨#[]⟩) := cell_later c qx_2
  replace qy_0 : w6.cell? ⟨w3.heap.size + 1 + 1, 0, none⟩ = some (.bool false) := cell_later c qy_0
  replace qy_1 : w6.cell? ⟨w3.heap.size + 1 + 1, 1, none⟩ = some (.int .i64 b) := cell_later c qy_1
  replace qy_2 : w6.cell? ⟨w3.heap.size + 1 + 1, 2, none⟩ = some (.string ⟨#[]⟩) := cell_later c qy_2
  replace qp_0 : w6.cell? ⟨w4.heap.size, 0, none⟩ = some (.bool false) := cell_later c qp_0
  replace qp_1 : w6.cell? ⟨w4.heap.size, 1, none⟩ = some (.int .i64 pn) := cell_later c qp_1
  replace qp_2 : w6.cell? ⟨w4.heap.size, 2, none⟩ = some (.string ⟨#[]⟩) := cell_later c qp_2
  replace qq_0 : w6.cell? ⟨w5.heap.size, 0, none⟩ = some (.bool false) := cell_later c qq_0
  replace qq_1 : w6.cell? ⟨w5.heap.size, 1, none⟩ = some (.int .i64 pn) := cell_later c qq_1
  replace qq_2 : w6.cell? ⟨w5.heap.size, 2, none⟩ = some (.string ⟨#[]⟩) := cell_later c qq_2
  clear lt
  have lt : w2.heap.size < w6.heap.size := World.block_lt_of_cell? _ _ qt_0
  clear lu
  have lu : w3.heap.size < w6.heap.size := World.block_lt_of_cell? _ _ qu_0
  clear lx
  have lx : w3.heap.size + 1 < w6.heap.size := World.block_lt_of_cell? _ _ qx_0
  clear ly
  have ly : w3.heap.size + 1 + 1 < w6.heap.size := World.block_lt_of_cell? _ _ qy_0
  clear lp
  have lp : w4.heap.size < w6.heap.size := World.block_lt_of_cell? _ _ qp_0
  have lq : w5.heap.size < w6.heap.size := World.block_lt_of_cell? _ _ qq_0
  replace C := Lib.hid (bj C.out c)
  clear c
  replace qt_0 : (w6.alloc (.cells #[.bool mb, .int .i64 mn, .string mS] 25)).cell? ⟨w2.heap.size, 0, none⟩ = some (.int .i64 kt) := past1 _ qt_0
  replace qt_1 : (w6.alloc (.cells #[.bool mb, .int .i64 mn, .string mS] 25)).cell? ⟨w2.heap.size, 1, none⟩ = some (.int .i64 st) := past1 _ qt_1
  replace qu_0 : (w6.alloc (.cells #[.bool mb, .int .i64 mn, .string mS] 25)).cell? ⟨w3.heap.size, 0, none⟩ = some (.int .i64 ku) := past1 _ qu_0
  replace qu_1 : (w6.alloc (.cells #[.bool mb, .int .i64 mn, .string mS] 25)).cell? ⟨w3.heap.size, 1, none⟩ = some (.int .i64 su) := past1 _ qu_1
  replace qx_0 : (w6.alloc (.cells #[.bool mb, .int .i64 mn, .string mS] 25)).cell? ⟨w3.heap.size + 1, 0, none⟩ = some (.bool false) := past1 _ qx_0
  replace qx_1 : (w6.alloc (.cells #[.bool mb, .int .i64 mn, .string mS] 25)).cell? ⟨w3.heap.size + 1, 1, none⟩ = some (.int .i64 a) := past1 _ qx_1
  replace qx_2 : (w6.alloc (.cells #[.bool mb, .int .i64 mn, .string mS] 25)).cell? ⟨w3.heap.size + 1, 2, none⟩ = some (.string ⟨#[]⟩) := past1 _ qx_2
  replace qy_0 : (w6.alloc (.cells #[.bool mb, .int .i64 mn, .string mS] 25)).cell? ⟨w3.heap.size + 1 + 1, 0, none⟩ = some (.bool false) := past1 _ qy_0
  replace qy_1 : (w6.alloc (.cells #[.bool mb, .int .i64 mn, .string mS] 25)).cell? ⟨w3.heap.size + 1 + 1, 1, none⟩ = some (.int .i64 b) := past1 _ qy_1
  replace qy_2 : (w6.alloc (.cells #[.bool mb, .int .i64 mn, .string mS] 25)).cell? ⟨w3.heap.size + 1 + 1, 2, none⟩ = some (.string ⟨#[]⟩) := past1 _ qy_2
  replace qp_0 : (w6.alloc (.cells #[.bool mb, .int .i64 mn, .string mS] 25)).cell? ⟨w4.heap.size, 0, none⟩ = some (.bool false) := past1 _ qp_0
  replace qp_1 : (w6.alloc (.cells #[.bool mb, .int .i64 mn, .string mS] 25)).cell? ⟨w4.heap.size, 1, none⟩ = some (.int .i64 pn) := past1 _ qp_1
  replace qp_2 : (w6.alloc (.cells #[.bool mb, .int .i64 mn, .string mS] 25)).cell? ⟨w4.heap.size, 2, none⟩ = some (.string ⟨#[]⟩) := past1 _ qp_2
  replace qq_0 : (w6.alloc (.cells #[.bool mb, .int .i64 mn, .string mS] 25)).cell? ⟨w5.heap.size, 0, none⟩ = some (.bool false) := past1 _ qq_0
  replace qq_1 : (w6.alloc (.cells #[.bool mb, .int .i64 mn, .string mS] 25)).cell? ⟨w5.heap.size, 1, none⟩ = some (.int .i64 pn) := past1 _ qq_1
  replace qq_2 : (w6.alloc (.cells #[.bool mb, .int .i64 mn, .string mS] 25)).cell? ⟨w5.heap.size, 2, none⟩ = some (.string ⟨#[]⟩) := past1 _ qq_2
  have qm_0 : (w6.alloc (.cells #[.bool mb, .int .i64 mn, .string mS] 25)).cell? ⟨w6.heap.size, 0, none⟩ = some (.bool mb) := World.cell?_alloc_at _ _ _ _ (rfl)
  have qm_1 : (w6.alloc (.cells #[.bool mb, .int .i64 mn, .string mS] 25)).cell? ⟨w6.heap.size, 1, none⟩ = some (.int .i64 mn) := World.cell?_alloc_at _ _ _ _ (rfl)
  have qm_2 : (w6.alloc (.cells #[.bool mb, .int .i64 mn, .string mS] 25)).cell? ⟨w6.heap.size, 2, none⟩ = some (.string mS) := World.cell?_alloc_at _ _ _ _ (rfl)
  replace C := Lib.hid (ba C.out (.cells #[.bool mb, .int .i64 mn, .string mS] 25))
  go_wp2_with fail
  refine (A4.out _).mono ?_
  rintro e w7 ⟨rfl, c⟩
  replace qt_0 : w7.cell? ⟨w2.heap.size, 0, none⟩ = some (.int .i64 kt) := cell_later c qt_0
  replace qt_1 : w7.cell? ⟨w2.heap.size, 1, none⟩ = some (.int .i64 st) := cell_later c qt_1
  replace qu_0 : w7.cell? ⟨w3.heap.size, 0, none⟩ = some (.int .i64 ku) := cell_later c qu_0
  replace qu_1 : w7.cell? ⟨w3.heap.size, 1, none⟩ = some (.int .i64 su) := cell_later c qu_1
  replace qx_0 : w7.cell? ⟨w3.heap.size + 1, 0, none⟩ = some (.bool false) := cell_later c qx_0
  replace qx_1 : w7.cell? ⟨w3.heap.size + 1, 1, none⟩ = some (.int .i64 a) := cell_later c qx_1
  replace qx_2 : w7.cell? ⟨w3.heap.size + 1, 2, none⟩ = some (.string ⟨#[]⟩) := cell_later c qx_2
  replace qy_0 : w7.cell? ⟨w3.heap.size + 1 + 1, 0, none⟩ = some (.bool false) := cell_later c qy_0
  replace qy_1 : w7.cell? ⟨w3.heap.size + 1 + 1, 1, none⟩ = some (.int .i64 b) := cell_later c qy_1
  replace qy_2 : w7.cell? ⟨w3.heap.size + 1 + 1, 2, none⟩ = some (.string ⟨#[]⟩) := cell_later c qy_2
  replace qp_0 : w7.cell? ⟨w4.heap.size, 0, none⟩ = some (.bool false) := cell_later c qp_0
  replace qp_1 : w7.cell? ⟨w4.heap.size, 1, none⟩ = some (.int .i64 pn) := cell_later c qp_1
  replace qp_2 : w7.cell? ⟨w4.heap.size, 2, none⟩ = some (.string ⟨#[]⟩) := cell_later c qp_2
  replace qq_0 : w7.cell? ⟨w5.heap.size, 0, none⟩ = some (.bool false) := cell_later c qq_0
  replace qq_1 : w7.cell? ⟨w5.heap.size, 1, none⟩ = some (.int .i64 pn) := cell_later c qq_1
  replace qq_2 : w7.cell? ⟨w5.heap.size, 2, none⟩ = some (.string ⟨#[]⟩) := cell_later c qq_2
  replace qm_0 : w7.cell? ⟨w6.heap.size, 0, none⟩ = some (.bool mb) := cell_later c qm_0
  replace qm_1 : w7.cell? ⟨w6.heap.size, 1, none⟩ = some (.int .i64 mn) := cell_later c qm_1
  replace qm_2 : w7.cell? ⟨w6.heap.size, 2, none⟩ = some (.string mS) := cell_later c qm_2
  clear lt
  have lt : w2.heap.size < w7.heap.size := World.block_lt_of_cell? _ _ qt_0
  clear lu
  have lu : w3.heap.size < w7.heap.size := World.block_lt_of_cell? _ _ qu_0
  clear lx
  have lx : w3.heap.size + 1 < w7.heap.size := World.block_lt_of_cell? _ _ qx_0
  clear ly
  have ly : w3.heap.size + 1 + 1 < w7.heap.size := World.block_lt_of_cell? _ _ qy_0
  clear lp
  have lp : w4.heap.size < w7.heap.size := World.block_lt_of_cell? _ _ qp_0
  clear lq
  have lq : w5.heap.size < w7.heap.size := World.block_lt_of_cell? _ _ qq_0
  have lm : w6.heap.size < w7.heap.size := World.block_lt_of_cell? _ _ qm_0
  replace C := Lib.hid (bj C.out c)
  clear c
  replace qt_0 : (w7.alloc (.cells #[.bool mb, .int .i64 mn, .string mS] 25)).cell? ⟨w2.heap.size, 0, none⟩ = some (.int .i64 kt) := past1 _ qt_0
  replace qt_1 : (w7.alloc (.cells #[.bool mb, .int .i64 mn, .string mS] 25)).cell? ⟨w2.heap.size, 1, none⟩ = some (.int .i64 st) := past1 _ qt_1
  replace qu_0 : (w7.alloc (.cells #[.bool mb, .int .i64 mn, .string mS] 25)).cell? ⟨w3.heap.size, 0, none⟩ = some (.int .i64 ku) := past1 _ qu_0
  replace qu_1 : (w7.alloc (.cells #[.bool mb, .int .i64 mn, .string mS] 25)).cell? ⟨w3.heap.size, 1, none⟩ = some (.int .i64 su) := past1 _ qu_1
  replace qx_0 : (w7.alloc (.cells #[.bool mb, .int .i64 mn, .string mS] 25)).cell? ⟨w3.heap.size + 1, 0, none⟩ = some (.bool false) := past1 _ qx_0
  replace qx_1 : (w7.alloc (.cells #[.bool mb, .int .i64 mn, .string mS] 25)).cell? ⟨w3.heap.size + 1, 1, none⟩ = some (.int .i64 a) := past1 _ qx_1
  replace qx_2 : (w7.alloc (.cells #[.bool mb, .int .i64 mn, .string mS] 25)).cell? ⟨w3.heap.size + 1, 2, none⟩ = some (.string ⟨#[]⟩) := past1 _ qx_2
  replace qy_0 : (w7.alloc (.cells #[.bool mb, .int .i64 mn, .string mS] 25)).cell? ⟨w3.heap.size + 1 + 1, 0, none⟩ = some (.bool false) := past1 _ qy_0
  replace qy_1 : (w7.alloc (.cells #[.bool mb, .int .i64 mn, .string mS] 25)).cell? ⟨w3.heap.size + 1 + 1, 1, none⟩ = some (.int .i64 b) := past1 _ qy_1
  replace qy_2 : (w7.alloc (.cells #[.bool mb, .int .i64 mn, .string mS] 25)).cell? ⟨w3.heap.size + 1 + 1, 2, none⟩ = some (.string ⟨#[]⟩) := past1 _ qy_2
  replace qp_0 : (w7.alloc (.cells #[.bool mb, .int .i64 mn, .string mS] 25)).cell? ⟨w4.heap.size, 0, none⟩ = some (.bool false) := past1 _ qp_0
  replace qp_1 : (w7.alloc (.cells #[.bool mb, .int .i64 mn, .string mS] 25)).cell? ⟨w4.heap.size, 1, none⟩ = some (.int .i64 pn) := past1 _ qp_1
  replace qp_2 : (w7.alloc (.cells #[.bool mb, .int .i64 mn, .string mS] 25)).cell? ⟨w4.heap.size, 2, none⟩ = some (.string ⟨#[]⟩) := past1 _ qp_2
  replace qq_0 : (w7.alloc (.cells #[.bool mb, .int .i64 mn, .string mS] 25)).cell? ⟨w5.heap.size, 0, none⟩ = some (.bool false) := past1 _ qq_0
  replace qq_1 : (w7.alloc (.cells #[.bool mb, .int .i64 mn, .string mS] 25)).cell? ⟨w5.heap.size, 1, none⟩ = some (.int .i64 pn) := past1 _ qq_1
  replace qq_2 : (w7.alloc (.cells #[.bool mb, .int .i64 mn, .string mS] 25)).cell? ⟨w5.heap.size, 2, none⟩ = some (.string ⟨#[]⟩) := past1 _ qq_2
  replace qm_0 : (w7.alloc (.cells #[.bool mb, .int .i64 mn, .string mS] 25)).cell? ⟨w6.heap.size, 0, none⟩ = some (.bool mb) := past1 _ qm_0
  replace qm_1 : (w7.alloc (.cells #[.bool mb, .int .i64 mn, .string mS] 25)).cell? ⟨w6.heap.size, 1, none⟩ = some (.int .i64 mn) := past1 _ qm_1
  replace qm_2 : (w7.alloc (.cells #[.bool mb, .int .i64 mn, .string mS] 25)).cell? ⟨w6.heap.size, 2, none⟩ = some (.string mS) := past1 _ qm_2
  have qn_0 : (w7.alloc (.cells #[.bool mb, .int .i64 mn, .string mS] 25)).cell? ⟨w7.heap.size, 0, none⟩ = some (.bool mb) := World.cell?_alloc_at _ _ _ _ (rfl)
  have qn_1 : (w7.alloc (.cells #[.bool mb, .int .i64 mn, .string mS] 25)).cell? ⟨w7.heap.size, 1, none⟩ = some (.int .i64 mn) := World.cell?_alloc_at _ _ _ _ (rfl)
  have qn_2 : (w7.alloc (.cells #[.bool mb, .int .i64 mn, .string mS] 25)).cell? ⟨w7.heap.size, 2, none⟩ = some (.string mS) := World.cell?_alloc_at _ _ _ _ (rfl)
  replace C := Lib.hid (ba C.out (.cells #[.bool mb, .int .i64 mn, .string mS] 25))
  go_wp2_with fail
  refine (C1.out _).mono ?_
  rintro e w8 ⟨rfl, c⟩
  replace qt_0 : w8.cell? ⟨w2.heap.size, 0, none⟩ = some (.int .i64 kt) := cell_later c qt_0
  replace qt_1 : w8.cell? ⟨w2.heap.size, 1, none⟩ = some (.int .i64 st) := cell_later c qt_1
  replace qu_0 : w8.cell? ⟨w3.heap.size, 0, none⟩ = some (.int .i64 ku) := cell_later c qu_0
  replace qu_1 : w8.cell? ⟨w3.heap.size, 1, none⟩ = some (.int .i64 su) := cell_later c qu_1
  replace qx_0 : w8.cell? ⟨w3.heap.size + 1, 0, none⟩ = some (.bool false) := cell_later c qx_0
  replace qx_1 : w8.cell? ⟨w3.heap.size + 1, 1, none⟩ = some (.int .i64 a) := cell_later c qx_1
  replace qx_2 : w8.cell? ⟨w3.heap.size + 1, 2, none⟩ = some (.string ⟨#[]⟩) := cell_later c qx_2
  replace qy_0 : w8.cell? ⟨w3.heap.size + 1 + 1, 0, none⟩ = some (.bool false) := cell_later c qy_0
  replace qy_1 : w8.cell? ⟨w3.heap.size + 1 + 1, 1, none⟩ = some (.int .i64 b) := cell_later c qy_1
  replace qy_2 : w8.cell? ⟨w3.heap.size + 1 + 1, 2, none⟩ = some (.string ⟨#[]⟩) := cell_later c qy_2
  replace qp_0 : w8.cell? ⟨w4.heap.size, 0, none⟩ = some (.bool false) := cell_later c qp_0
  replace qp_1 : w8.cell? ⟨w4.heap.size, 1, none⟩ = some (.int .i64 pn) := cell_later c qp_1
  replace qp_2 : w8.cell? ⟨w4.heap.size, 2, none⟩ = some (.string ⟨#[]⟩) := cell_later c qp_2
  replace qq_0 : w8.cell? ⟨w5.heap.size, 0, none⟩ = some (.bool false) := cell_later c qq_0
  replace qq_1 : w8.cell? ⟨w5.heap.size, 1, none⟩ = some (.int .i64 pn) := cell_later c qq_1
  replace qq_2 : w8.cell? ⟨w5.heap.size, 2, none⟩ = some (.string ⟨#[]⟩) := cell_later c qq_2
  replace qm_0 : w8.cell? ⟨w6.heap.size, 0, none⟩ = some (.bool mb) := cell_later c qm_0
  replace qm_1 : w8.cell? ⟨w6.heap.size, 1, none⟩ = some (.int .i64 mn) := cell_later c qm_1
  replace qm_2 : w8.cell? ⟨w6.heap.size, 2, none⟩ = some (.string mS) := cell_later c qm_2
  replace qn_0 : w8.cell? ⟨w7.heap.size, 0, none⟩ = some (.bool mb) := cell_later c qn_0
  replace qn_1 : w8.cell? ⟨w7.heap.size, 1, none⟩ = some (.int .i64 mn) := cell_later c qn_1
  replace qn_2 : w8.cell? ⟨w7.heap.size, 2, none⟩ = some (.string mS) := cell_later c qn_2
  clear lt
  have lt : w2.heap.size < w8.heap.size := World.block_lt_of_cell? _ _ qt_0
  clear lu
  have lu : w3.heap.size < w8.heap.size := World.block_lt_of_cell? _ _ qu_0
  clear lx
  have lx : w3.heap.size + 1 < w8.heap.size := World.block_lt_of_cell? _ _ qx_0
  clear ly
  have ly : w3.heap.size + 1 + 1 < w8.heap.size := World.block_lt_of_cell? _ _ qy_0
  clear lp
  have lp : w4.heap.size < w8.heap.size := World.block_lt_of_cell? _ _ qp_0
  clear lq
  have lq : w5.heap.size < w8.heap.size := World.block_lt_of_cell? _ _ qq_0
  clear lm
  have lm : w6.heap.size < w8.heap.size := World.block_lt_of_cell? _ _ qm_0
  have ln : w7.heap.size < w8.heap.size := World.block_lt_of_cell? _ _ qn_0
  replace C := Lib.hid (bj C.out c)
  clear c
  go_wp2_with fail
  refine (C2.out _).mono ?_
  rintro e w9 ⟨rfl, c⟩
  replace qt_0 : w9.cell? ⟨w2.heap.size, 0, none⟩ = some (.int .i64 kt) := cell_later c qt_0
  replace qt_1 : w9.cell? ⟨w2.heap.size, 1, none⟩ = some (.int .i64 st) := cell_later c qt_1
  replace qu_0 : w9.cell? ⟨w3.heap.size, 0, none⟩ = some (.int .i64 ku) := cell_later c qu_0
  replace qu_1 : w9.cell? ⟨w3.heap.size, 1, none⟩ = some (.int .i64 su) := cell_later c qu_1
  replace qx_0 : w9.cell? ⟨w3.heap.size + 1, 0, none⟩ = some (.bool false) := cell_later c qx_0
  replace qx_1 : w9.cell? ⟨w3.heap.size + 1, 1, none⟩ = some (.int .i64 a) := cell_later c qx_1
  replace qx_2 : w9.cell? ⟨w3.heap.size + 1, 2, none⟩ = some (.string ⟨#[]⟩) := cell_later c qx_2
  replace qy_0 : w9.cell? ⟨w3.heap.size + 1 + 1, 0, none⟩ = some (.bool false) := cell_later c qy_0
  replace qy_1 : w9.cell? ⟨w3.heap.size + 1 + 1, 1, none⟩ = some (.int .i64 b) := cell_later c qy_1
  replace qy_2 : w9.cell? ⟨w3.heap.size + 1 + 1, 2, none⟩ = some (.string ⟨#[]⟩) := cell_later c qy_2
  replace qp_0 : w9.cell? ⟨w4.heap.size, 0, none⟩ = some (.bool false) := cell_later c qp_0
  replace qp_1 : w9.cell? ⟨w4.heap.size, 1, none⟩ = some (.int .i64 pn) := cell_later c qp_1
  replace qp_2 : w9.cell? ⟨w4.heap.size, 2, none⟩ = some (.string ⟨#[]⟩) := cell_later c qp_2
  replace qq_0 : w9.cell? ⟨w5.heap.size, 0, none⟩ = some (.bool false) := cell_later c qq_0
  replace qq_1 : w9.cell? ⟨w5.heap.size, 1, none⟩ = some (.int .i64 pn) := cell_later c qq_1
  replace qq_2 : w9.cell? ⟨w5.heap.size, 2, none⟩ = some (.string ⟨#[]⟩) := cell_later c qq_2
  replace qm_0 : w9.cell? ⟨w6.heap.size, 0, none⟩ = some (.bool mb) := cell_later c qm_0
  replace qm_1 : w9.cell? ⟨w6.heap.size, 1, none⟩ = some (.int .i64 mn) := cell_later c qm_1
  replace qm_2 : w9.cell? ⟨w6.heap.size, 2, none⟩ = some (.string mS) := cell_later c qm_2
  replace qn_0 : w9.cell? ⟨w7.heap.size, 0, none⟩ = some (.bool mb) := cell_later c qn_0
  replace qn_1 : w9.cell? ⟨w7.heap.size, 1, none⟩ = some (.int .i64 mn) := cell_later c qn_1
  replace qn_2 : w9.cell? ⟨w7.heap.size, 2, none⟩ = some (.string mS) := cell_later c qn_2
  clear lt
  have lt : w2.heap.size < w9.heap.size := World.block_lt_of_cell? _ _ qt_0
  clear lu
  have lu : w3.heap.size < w9.heap.size := World.block_lt_of_cell? _ _ qu_0
  clear lx
  have lx : w3.heap.size + 1 < w9.heap.size := World.block_lt_of_cell? _ _ qx_0
  clear ly
  have ly : w3.heap.size + 1 + 1 < w9.heap.size := World.block_lt_of_cell? _ _ qy_0
  clear lp
  have lp : w4.heap.size < w9.heap.size := World.block_lt_of_cell? _ _ qp_0
  clear lq
  have lq : w5.heap.size < w9.heap.size := World.block_lt_of_cell? _ _ qq_0
  clear lm
  have lm : w6.heap.size < w9.heap.size := World.block_lt_of_cell? _ _ qm_0
  clear ln
  have ln : w7.heap.size < w9.heap.size := World.block_lt_of_cell? _ _ qn_0
  replace C := Lib.hid (bj C.out c)
  clear c
  go_wp2_with fail
  refine (T1.out _).mono ?_
  rintro e w10 ⟨rfl, c⟩
  replace qt_0 : w10.cell? ⟨w2.heap.size, 0, none⟩ = some (.int .i64 kt) := cell_later c qt_0
  replace qt_1 : w10.cell? ⟨w2.heap.size, 1, none⟩ = some (.int .i64 st) := cell_later c qt_1
  replace qu_0 : w10.cell? ⟨w3.heap.size, 0, none⟩ = some (.int .i64 ku) := cell_later c qu_0
  replace qu_1 : w10.cell? ⟨w3.heap.size, 1, none⟩ = some (.int .i64 su) := cell_later c qu_1
  replace qx_0 : w10.cell? ⟨w3.heap.size + 1, 0, none⟩ = some (.bool false) := cell_later c qx_0
  replace qx_1 : w10.cell? ⟨w3.heap.size + 1, 1, none⟩ = some (.int .i64 a) := cell_later c qx_1
  replace qx_2 : w10.cell? ⟨w3.heap.size + 1, 2, none⟩ = some (.string ⟨#[]⟩) := cell_later c qx_2
  replace qy_0 : w10.cell? ⟨w3.heap.size + 1 + 1, 0, none⟩ = some (.bool false) := cell_later c qy_0
  replace qy_1 : w10.cell? ⟨w3.heap.size + 1 + 1, 1, none⟩ = some (.int .i64 b) := cell_later c qy_1
  replace qy_2 : w10.cell? ⟨w3.heap.size + 1 + 1, 2, none⟩ = some (.string ⟨#[]⟩) := cell_later c qy_2
  replace qp_0 : w10.cell? ⟨w4.heap.size, 0, none⟩ = some (.bool false) := cell_later c qp_0
  replace qp_1 : w10.cell? ⟨w4.heap.size, 1, none⟩ = some (.int .i64 pn) := cell_later c qp_1
  replace qp_2 : w10.cell? ⟨w4.heap.size, 2, none⟩ = some (.string ⟨#[]⟩) := cell_later c qp_2
  replace qq_0 : w10.cell? ⟨w5.heap.size, 0, none⟩ = some (.bool false) := cell_later c qq_0
  replace qq_1 : w10.cell? ⟨w5.heap.size, 1, none⟩ = some (.int .i64 pn) := cell_later c qq_1
  replace qq_2 : w10.cell? ⟨w5.heap.size, 2, none⟩ = some (.string ⟨#[]⟩) := cell_later c qq_2
  replace qm_0 : w10.cell? ⟨w6.heap.size, 0, none⟩ = some (.bool mb) := cell_later c qm_0
  replace qm_1 : w10.cell? ⟨w6.heap.size, 1, none⟩ = some (.int .i64 mn) := cell_later c qm_1
  replace qm_2 : w10.cell? ⟨w6.heap.size, 2, none⟩ = some (.string mS) := cell_later c qm_2
  replace qn_0 : w10.cell? ⟨w7.heap.size, 0, none⟩ = some (.bool mb) := cell_later c qn_0
  replace qn_1 : w10.cell? ⟨w7.heap.size, 1, none⟩ = some (.int .i64 mn) := cell_later c qn_1
  replace qn_2 : w10.cell? ⟨w7.heap.size, 2, none⟩ = some (.string mS) := cell_later c qn_2
  clear lt
  have lt : w2.heap.size < w10.heap.size := World.block_lt_of_cell? _ _ qt_0
  clear lu
  have lu : w3.heap.size < w10.heap.size := World.block_lt_of_cell? _ _ qu_0
  clear lx
  have lx : w3.heap.size + 1 < w10.heap.size := World.block_lt_of_cell? _ _ qx_0
  clear ly
  have ly : w3.heap.size + 1 + 1 < w10.heap.size := World.block_lt_of_cell? _ _ qy_0
  clear lp
  have lp : w4.heap.size < w10.heap.size := World.block_lt_of_cell? _ _ qp_0
  clear lq
  have lq : w5.heap.size < w10.heap.size := World.block_lt_of_cell? _ _ qq_0
  clear lm
  have lm : w6.heap.size < w10.heap.size := World.block_lt_of_cell? _ _ qm_0
  clear ln
  have ln : w7.heap.size < w10.heap.size := World.block_lt_of_cell? _ _ qn_0
  replace C := Lib.hid (bj C.out c)
  clear c
  clear qq_0
  clear qq_1
  clear qq_2
  clear lq
  clear qm_0
  clear qm_1
  clear qm_2
  clear lm
  clear qn_0
  clear qn_1
  clear qn_2
  clear ln
  replace qt_0 : (w10.alloc (.cells #[.int .i64 kv, .int .i64 sv] 23)).cell? ⟨w2.heap.size, 0, none⟩ = some (.int .i64 kt) := past1 _ qt_0
  replace qt_1 : (w10.alloc (.cells #[.int .i64 kv, .int .i64 sv] 23)).cell? ⟨w2.heap.size, 1, none⟩ = some (.int .i64 st) := past1 _ qt_1
  replace qu_0 : (w10.alloc (.cells #[.int .i64 kv, .int .i64 sv] 23)).cell? ⟨w3.heap.size, 0, none⟩ = some (.int .i64 ku) := past1 _ qu_0
  replace qu_1 : (w10.alloc (.cells #[.int .i64 kv, .int .i64 sv] 23)).cell? ⟨w3.heap.size, 1, none⟩ = some (.int .i64 su) := past1 _ qu_1
  replace qx_0 : (w10.alloc (.cells #[.int .i64 kv, .int .i64 sv] 23)).cell? ⟨w3.heap.size + 1, 0, none⟩ = some (.bool false) := past1 _ qx_0
  replace qx_1 : (w10.alloc (.cells #[.int .i64 kv, .int .i64 sv] 23)).cell? ⟨w3.heap.size + 1, 1, none⟩ = some (.int .i64 a) := past1 _ qx_1
  replace qx_2 : (w10.alloc (.cells #[.int .i64 kv, .int .i64 sv] 23)).cell? ⟨w3.heap.size + 1, 2, none⟩ = some (.string ⟨#[]⟩) := past1 _ qx_2
  replace qy_0 : (w10.alloc (.cells #[.int .i64 kv, .int .i64 sv] 23)).cell? ⟨w3.heap.size + 1 + 1, 0, none⟩ = some (.bool false) := past1 _ qy_0
  replace qy_1 : (w10.alloc (.cells #[.int .i64 kv, .int .i64 sv] 23)).cell? ⟨w3.heap.size + 1 + 1, 1, none⟩ = some (.int .i64 b) := past1 _ qy_1
  replace qy_2 : (w10.alloc (.cells #[.int .i64 kv, .int .i64 sv] 23)).cell? ⟨w3.heap.size + 1 + 1, 2, none⟩ = some (.string ⟨#[]⟩) := past1 _ qy_2
  replace qp_0 : (w10.alloc (.cells #[.int .i64 kv, .int .i64 sv] 23)).cell? ⟨w4.heap.size, 0, none⟩ = some (.bool false) := past1 _ qp_0
  replace qp_1 : (w10.alloc (.cells #[.int .i64 kv, .int .i64 sv] 23)).cell? ⟨w4.heap.size, 1, none⟩ = some (.int .i64 pn) := past1 _ qp_1
  replace qp_2 : (w10.alloc (.cells #[.int .i64 kv, .int .i64 sv] 23)).cell? ⟨w4.heap.size, 2, none⟩ = some (.string ⟨#[]⟩) := past1 _ qp_2
  have qv_0 : (w10.alloc (.cells #[.int .i64 kv, .int .i64 sv] 23)).cell? ⟨w10.heap.size, 0, none⟩ = some (.int .i64 kv) := World.cell?_alloc_at _ _ _ _ (rfl)
  have qv_1 : (w10.alloc (.cells #[.int .i64 kv, .int .i64 sv] 23)).cell? ⟨w10.heap.size, 1, none⟩ = some (.int .i64 sv) := World.cell?_alloc_at _ _ _ _ (rfl)
  replace C := Lib.hid (ba C.out (.cells #[.int .i64 kv, .int .i64 sv] 23))
  go_wp2_with fail
  refine (A5.out _).mono ?_
  rintro e w11 ⟨rfl, c⟩
  replace qt_0 : w11.cell? ⟨w2.heap.size, 0, none⟩ = some (.int .i64 kt) := cell_later c qt_0
  replace qt_1 : w11.cell? ⟨w2.heap.size, 1, none⟩ = some (.int .i64 st) := cell_later c qt_1
  replace qu_0 : w11.cell? ⟨w3.heap.size, 0, none⟩ = some (.int .i64 ku) := cell_later c qu_0
  replace qu_1 : w11.cell? ⟨w3.heap.size, 1, none⟩ = some (.int .i64 su) := cell_later c qu_1
  replace qx_0 : w11.cell? ⟨w3.heap.size + 1, 0, none⟩ = some (.bool false) := cell_later c qx_0
  replace qx_1 : w11.cell? ⟨w3.heap.size + 1, 1, none⟩ = some (.int .i64 a) := cell_later c qx_1
  replace qx_2 : w11.cell? ⟨w3.heap.size + 1, 2, none⟩ = some (.string ⟨#[]⟩) := cell_later c qx_2
  replace qy_0 : w11.cell? ⟨w3.heap.size + 1 + 1, 0, none⟩ = some (.bool false) := cell_later c qy_0
  replace qy_1 : w11.cell? ⟨w3.heap.size + 1 + 1, 1, none⟩ = some (.int .i64 b) := cell_later c qy_1
  replace qy_2 : w11.cell? ⟨w3.heap.size + 1 + 1, 2, none⟩ = some (.string ⟨#[]⟩) := cell_later c qy_2
  replace qp_0 : w11.cell? ⟨w4.heap.size, 0, none⟩ = some (.bool false) := cell_later c qp_0
  replace qp_1 : w11.cell? ⟨w4.heap.size, 1, none⟩ = some (.int .i64 pn) := cell_later c qp_1
  replace qp_2 : w11.cell? ⟨w4.heap.size, 2, none⟩ = some (.string ⟨#[]⟩) := cell_later c qp_2
  replace qv_0 : w11.cell? ⟨w10.heap.size, 0, none⟩ = some (.int .i64 kv) := cell_later c qv_0
  replace qv_1 : w11.cell? ⟨w10.heap.size, 1, none⟩ = some (.int .i64 sv) := cell_later c qv_1
  clear lt
  have lt : w2.heap.size < w11.heap.size := World.block_lt_of_cell? _ _ qt_0
  clear lu
  have lu : w3.heap.size < w11.heap.size := World.block_lt_of_cell? _ _ qu_0
  clear lx
  have lx : w3.heap.size + 1 < w11.heap.size := World.block_lt_of_cell? _ _ qx_0
  clear ly
  have ly : w3.heap.size + 1 + 1 < w11.heap.size := World.block_lt_of_cell? _ _ qy_0
  clear lp
  have lp : w4.heap.size < w11.heap.size := World.block_lt_of_cell? _ _ qp_0
  have lv : w10.heap.size < w11.heap.size := World.block_lt_of_cell? _ _ qv_0
  replace C := Lib.hid (bj C.out c)
  clear c
  replace qt_0 : (w11.alloc (.cells #[.bool false, .int .i64 bn, .string ⟨#[]⟩] 25)).cell? ⟨w2.heap.size, 0, none⟩ = some (.int .i64 kt) := past1 _ qt_0
  replace qt_1 : (w11.alloc (.cells #[.bool false, .int .i64 bn, .string ⟨#[]⟩] 25)).cell? ⟨w2.heap.size, 1, none⟩ = some (.int .i64 st) := past1 _ qt_1
  replace qu_0 : (w11.alloc (.cells #[.bool false, .int .i64 bn, .string ⟨#[]⟩] 25)).cell? ⟨w3.heap.size, 0, none⟩ = some (.int .i64 ku) := past1 _ qu_0
  replace qu_1 : (w11.alloc (.cells #[.bool false, .int .i64 bn, .string ⟨#[]⟩] 25)).cell? ⟨w3.heap.size, 1, none⟩ = some (.int .i64 su) := past1 _ qu_1
  replace qx_0 : (w11.alloc (.cells #[.bool false, .int .i64 bn, .string ⟨#[]⟩] 25)).cell? ⟨w3.heap.size + 1, 0, none⟩ = some (.bool false) := past1 _ qx_0
  replace qx_1 : (w11.alloc (.cells #[.bool false, .int .i64 bn, .string ⟨#[]⟩] 25)).cell? ⟨w3.heap.size + 1, 1, none⟩ = some (.int .i64 a) := past1 _ qx_1
  replace qx_2 : (w11.alloc (.cells #[.bool false, .int .i64 bn, .string ⟨#[]⟩] 25)).cell? ⟨w3.heap.size + 1, 2, none⟩ = some (.string ⟨#[]⟩) := past1 _ qx_2
  replace qy_0 : (w11.alloc (.cells #[.bool false, .int .i64 bn, .string ⟨#[]⟩] 25)).cell? ⟨w3.heap.size + 1 + 1, 0, none⟩ = some (.bool false) := past1 _ qy_0
  replace qy_1 : (w11.alloc (.cells #[.bool false, .int .i64 bn, .string ⟨#[]⟩] 25)).cell? ⟨w3.heap.size + 1 + 1, 1, none⟩ = some (.int .i64 b) := past1 _ qy_1
  replace qy_2 : (w11.alloc (.cells #[.bool false, .int .i64 bn, .string ⟨#[]⟩] 25)).cell? ⟨w3.heap.size + 1 + 1, 2, none⟩ = some (.string ⟨#[]⟩) := past1 _ qy_2
  replace qp_0 : (w11.alloc (.cells #[.bool false, .int .i64 bn, .string ⟨#[]⟩] 25)).cell? ⟨w4.heap.size, 0, none⟩ = some (.bool false) := past1 _ qp_0
  replace qp_1 : (w11.alloc (.cells #[.bool false, .int .i64 bn, .string ⟨#[]⟩] 25)).cell? ⟨w4.heap.size, 1, none⟩ = some (.int .i64 pn) := past1 _ qp_1
  replace qp_2 : (w11.alloc (.cells #[.bool false, .int .i64 bn, .string ⟨#[]⟩] 25)).cell? ⟨w4.heap.size, 2, none⟩ = some (.string ⟨#[]⟩) := past1 _ qp_2
  replace qv_0 : (w11.alloc (.cells #[.bool false, .int .i64 bn, .string ⟨#[]⟩] 25)).cell? ⟨w10.heap.size, 0, none⟩ = some (.int .i64 kv) := past1 _ qv_0
  replace qv_1 : (w11.alloc (.cells #[.bool false, .int .i64 bn, .string ⟨#[]⟩] 25)).cell? ⟨w10.heap.size, 1, none⟩ = some (.int .i64 sv) := past1 _ qv_1
  have qz_0 : (w11.alloc (.cells #[.bool false, .int .i64 bn, .string ⟨#[]⟩] 25)).cell? ⟨w11.heap.size, 0, none⟩ = some (.bool false) := World.cell?_alloc_at _ _ _ _ (rfl)
  have qz_1 : (w11.alloc (.cells #[.bool false, .int .i64 bn, .string ⟨#[]⟩] 25)).cell? ⟨w11.heap.size, 1, none⟩ = some (.int .i64 bn) := World.cell?_alloc_at _ _ _ _ (rfl)
  have qz_2 : (w11.alloc (.cells #[.bool false, .int .i64 bn, .string ⟨#[]⟩] 25)).cell? ⟨w11.heap.size, 2, none⟩ = some (.string ⟨#[]⟩) := World.cell?_alloc_at _ _ _ _ (rfl)
  replace C := Lib.hid (ba C.out (.cells #[.bool false, .int .i64 bn, .string ⟨#[]⟩] 25))
  go_wp2_with fail
  refine (C3.out _).mono ?_
  rintro e w12 ⟨rfl, c⟩
  replace qt_0 : w12.cell? ⟨w2.heap.size, 0, none⟩ = some (.int .i64 kt) := cell_later c qt_0
  replace qt_1 : w12.cell? ⟨w2.heap.size, 1, none⟩ = some (.int .i64 st) := cell_later c qt_1
  replace qu_0 : w12.cell? ⟨w3.heap.size, 0, none⟩ = some (.int .i64 ku) := cell_later c qu_0
  replace qu_1 : w12.cell? ⟨w3.heap.size, 1, none⟩ = some (.int .i64 su) := cell_later c qu_1
  replace qx_0 : w12.cell? ⟨w3.heap.size + 1, 0, none⟩ = some (.bool false) := cell_later c qx_0
  replace qx_1 : w12.cell? ⟨w3.heap.size + 1, 1, none⟩ = some (.int .i64 a) := cell_later c qx_1
  replace qx_2 : w12.cell? ⟨w3.heap.size + 1, 2, none⟩ = some (.string ⟨#[]⟩) := cell_later c qx_2
  replace qy_0 : w12.cell? ⟨w3.heap.size + 1 + 1, 0, none⟩ = some (.bool false) := cell_later c qy_0
  replace qy_1 : w12.cell? ⟨w3.heap.size + 1 + 1, 1, none⟩ = some (.int .i64 b) := cell_later c qy_1
  replace qy_2 : w12.cell? ⟨w3.heap.size + 1 + 1, 2, none⟩ = some (.string ⟨#[]⟩) := cell_later c qy_2
  replace qp_0 : w12.cell? ⟨w4.heap.size, 0, none⟩ = some (.bool false) := cell_later c qp_0
  replace qp_1 : w12.cell? ⟨w4.heap.size, 1, none⟩ = some (.int .i64 pn) := cell_later c qp_1
  replace qp_2 : w12.cell? ⟨w4.heap.size, 2, none⟩ = some (.string ⟨#[]⟩) := cell_later c qp_2
  replace qv_0 : w12.cell? ⟨w10.heap.size, 0, none⟩ = some (.int .i64 kv) := cell_later c qv_0
  replace qv_1 : w12.cell? ⟨w10.heap.size, 1, none⟩ = some (.int .i64 sv) := cell_later c qv_1
  replace qz_0 : w12.cell? ⟨w11.heap.size, 0, none⟩ = some (.bool false) := cell_later c qz_0
  replace qz_1 : w12.cell? ⟨w11.heap.size, 1, none⟩ = some (.int .i64 bn) := cell_later c qz_1
  replace qz_2 : w12.cell? ⟨w11.heap.size, 2, none⟩ = some (.string ⟨#[]⟩) := cell_later c qz_2
  clear lt
  have lt : w2.heap.size < w12.heap.size := World.block_lt_of_cell? _ _ qt_0
  clear lu
  have lu : w3.heap.size < w12.heap.size := World.block_lt_of_cell? _ _ qu_0
  clear lx
  have lx : w3.heap.size + 1 < w12.heap.size := World.block_lt_of_cell? _ _ qx_0
  clear ly
  have ly : w3.heap.size + 1 + 1 < w12.heap.size := World.block_lt_of_cell? _ _ qy_0
  clear lp
  have lp : w4.heap.size < w12.heap.size := World.block_lt_of_cell? _ _ qp_0
  clear lv
  have lv : w10.heap.size < w12.heap.size := World.block_lt_of_cell? _ _ qv_0
  have lz : w11.heap.size < w12.heap.size := World.block_lt_of_cell? _ _ qz_0
  replace C := Lib.hid (bj C.out c)
  clear c
  go_wp2_with fail
  go_ret
  first | exact ⟨by simp, C.out⟩ | exact ⟨by simp, C.out.drew⟩ | exact ⟨by simp, C.out.drew.drew⟩
theorem turns_walk (a b : Int) (s u : UInt8) (ha : I64 a) (hb : I64 b) (w : World) (hE : VEnv w) : Calls Tryd.prog 7 #[.int .i64 a, .int .i64 b, .int .u8 (s.toNat : Int), .int .u8 (u.toNat : Int)] w (BoolS w true) := by
  have s0 : (0 : Int) ≤ ((s.toNat % 10 : Nat) : Int) := Int.natCast_nonneg _
  have s9 : ((s.toNat % 10 : Nat) : Int) ≤ 9 := by omega
  have u0 : (0 : Int) ≤ ((u.toNat % 10 : Nat) : Int) := Int.natCast_nonneg _
  have u9 : ((u.toNat % 10 : Nat) : Int) ≤ 9 := by omega
  have n1 : NumK s _ _ := fun W => number_any s W
  have n2 : NumK u _ _ := fun W => number_any u W
  obtain ⟨S, hS⟩ : ∃ S : Int, ((s.toNat % 10 : Nat) : Int) = S := ⟨_, rfl⟩
  obtain ⟨U, hU⟩ : ∃ U : Int, ((u.toNat % 10 : Nat) : Int) = U := ⟨_, rfl⟩
  rw [hS] at n1 s0 s9
  rw [hU] at n2 u0 u9
  have cm1 : ∀ W, _ := fun W => compare_any (numVa a) (numVa b) (typed S) (typed U) ha hb W _ (cmp_typed s0 s9 u0 u9 a b)
  have cm2 : ∀ W, _ := fun W => compare_any (numVa b) (numVa a) (typed U) (typed S) hb ha W _ (cmp_typed u0 u9 s0 s9 b a)
  have hw : IntKind.i64.wrap (-cmpI (b * ten (9 - U).toNat) (a * ten (9 - S).toNat)) = cmpI (a * ten (9 - S).toNat) (b * ten (9 - U).toNat) := by
    rw [cmpI_turn (a * ten (9 - S).toNat), cmpI_wrap1]
  have mul := turn_mul s0 s9 u0 u9 a b
  obtain ⟨⟨⟨mb, mn, mS⟩, m1⟩, hm⟩ : ∃ r, arithP 42 (numVa a) (numVa b) (typed S) (typed U) = r := ⟨_, rfl⟩
  rw [hm] at mul
  rcases sum_back s0 s9 u0 u9 a b with h | ⟨p, c, hp, hc, h1, h2, h3⟩
  · exact turns_no a b s u _ _ _ _ mn m1 _ _ mb mS w hE n1 n2 (fun W => arith_any 43 (numVa a) (numVa b) _ _ ha hb W _ _ h) (fun W => arith_any 43 (numVa b) (numVa a) _ _ hb ha W _ _ ((turn_add s0 s9 u0 u9 a b).symm.trans h)) (fun W => arith_any 42 (numVa a) (numVa b) _ _ ha hb W _ _ hm) (fun W => arith_any 42 (numVa b) (numVa a) _ _ hb ha W _ _ mul.symm) cm1 cm2 hw
  · exact turns_yes a b s u _ _ _ _ mn m1 _ _ p _ _ c mb mS w hE n1 n2 (fun W => arith_any 43 (numVa a) (numVa b) _ _ ha hb W _ _ h1) (fun W => arith_any 43 (numVa b) (numVa a) _ _ hb ha W _ _ ((turn_add s0 s9 u0 u9 a b).symm.trans h1)) (fun W => arith_any 42 (numVa a) (numVa b) _ _ ha hb W _ _ hm) (fun W => arith_any 42 (numVa b) (numVa a) _ _ hb ha W _ _ mul.symm) cm1 cm2 hw
      (fun W => aty_any 43 _ _ _ _ W (some (max S U)) (by exact (aty_typed 43 s0 s9 u0 u9).trans rfl)) (fun W => arith_any 45 (numVa p) (numVa b) _ _ hp hb W _ _ h2) (fun W => compare_any (numVa c) (numVa a) _ _ hc ha W _ h3)
end Go.Proofs.YtafnjkeljjeamaaDoor.Val
