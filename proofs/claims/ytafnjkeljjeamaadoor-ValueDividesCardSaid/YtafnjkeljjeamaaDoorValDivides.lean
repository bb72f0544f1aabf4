/-
  The law of quotients: the walk. No condition beyond what each theorem names.
-/
import Derived.Test.YtafnjkeljjeamaaDoorValDivPl
import Derived.Test.YtafnjkeljjeamaaDoorValEx
import Derived.Test.YtafnjkeljjeamaaDoorValWk2
namespace Go.Proofs.YtafnjkeljjeamaaDoor.Val
open Go.RowKit Go.Maps Go.Lib
set_option linter.unusedVariables false
set_option linter.unusedSimpArgs false
def ArK (op a b t : Value) (r : Va) (e1 : Int) : Prop := ∀ W, Calls Tryd.prog 21 #[op, a, b, t, t] W fun e w' => e = .returned (.tuple #[.agg #[.bool r.null, .int .i64 r.n, .string r.s], .int .i64 e1]) ∧ Below W.heap.size W w'
set_option maxRecDepth 100000 in
set_option maxHeartbeats 2000000 in
theorem divides_bad (a b : Int) (ha : I64 a) (hb : I64 b) (h : b = 0 ∨ (a = -9223372036854775808 ∧ b = -1)) (w : World) (hE : VEnv w) : Calls Tryd.prog 5 #[.int .i64 a, .int .i64 b] w (BoolS w true) := by
  have HE := Lib.hid hE
  have HA := Lib.hid (show ∀ W, Calls Tryd.prog 21 #[.int .u8 47, .agg #[.bool false, .int .i64 a, .string ⟨#[]⟩], .agg #[.bool false, .int .i64 b, .string ⟨#[]⟩], .agg #[.int .i64 1, .int .i64 0], .agg #[.int .i64 1, .int .i64 0]] W (fun e w' => e = .returned (.tuple #[.agg #[.bool false, .int .i64 0, .string ⟨#[]⟩], .int .i64 11]) ∧ Below W.heap.size W w') from fun W => arith_any 47 (numVa a) (numVa b) ⟨1, 0⟩ ⟨1, 0⟩ ha hb W _ _ (div_bad a b h))
  clear hE
  go_enter Tryd.func5, Tryd.ntmps5
  go_wp2_with fail
  refine (examples10 _ HE.out).mono ?_
  rintro e w1 ⟨rfl, c1⟩
  have C1 := Lib.hid (c1.alloc c1.size (.cells #[.int .i64 1, .int .i64 0] 23))
  clear c1
  go_wp2_with fail
  refine (HA.out _).mono ?_
  rintro e w2 ⟨rfl, c2⟩
  have C2 := Lib.hid ((C1.out.trans (c2.mono C1.out.size)).alloc (Nat.le_trans C1.out.size c2.size) (.cells #[.bool false, .int .i64 0, .string ⟨#[]⟩] 25))
  clear c2
  rcases h with rfl | ⟨rfl, rfl⟩
  · go_wp2_with fail
    go_ret
    exact ⟨rfl, C2.out⟩
  · go_wp2_with fail
    go_ret
    exact ⟨rfl, C2.out⟩
theorem quot_i64 {a b : Int} (ha : I64 a) (h : ¬ (b = 0 ∨ (a = -9223372036854775808 ∧ b = -1))) : I64 (a.tdiv b) := by
  have h1 := tdiv_i64 (b := b) ha (fun k => h (.inr k))
  rw [← h1]
  exact wrap_range _
theorem rest_i64 {a : Int} (b : Int) (ha : I64 a) : I64 (a.tmod b) := by
  have h1 := tmod_in a b
  unfold I64 at *
  omega
theorem wrap_rest {a : Int} (b : Int) (ha : I64 a) : IntKind.i64.wrap (a.tmod b) = a.tmod b := by
  rw [wrap_eq]
  exact wrap_fits (fits_iff.2 (rest_i64 b ha))
def ArO (op : UInt8) (xn : Bool) (x : Int) (yn : Bool) (y : Int) (rn : Bool) (r : Int) : Prop := ∀ W, Calls Tryd.prog 21 #[.int .u8 (op.toNat : Int), .agg #[.bool xn, .int .i64 x, .string ⟨#[]⟩], .agg #[.bool yn, .int .i64 y, .string ⟨#[]⟩], .agg #[.int .i64 1, .int .i64 0], .agg #[.int .i64 1, .int .i64 0]] W fun e w' => e = .returned (.tuple #[.agg #[.bool rn, .int .i64 r, .string ⟨#[]⟩], .int .i64 0]) ∧ Below W.heap.size W w'
set_option maxRecDepth 100000 in
set_option maxHeartbeats 2000000 in
theorem divides_core (a b q p r : Int) (m0 : Bool) (w : World) (hE : VEnv w) (h0 : ¬ b = 0) (hm : (a == -9223372036854775808) = m0) (hm2 : m0 = true → (b == -1) = false) (hr : a.tmod b = r) (hw : IntKind.i64.wrap (a.tmod b) = a.tmod b)
    (k1 : ArO 47 false a false b false q) (k2 : ArO 42 false q false b false p) (k3 : ArO 45 false a false p false r) (k4 : ArO 47 true 0 false 0 true 0) : Calls Tryd.prog 5 #[.int .i64 a, .int .i64 b] w (BoolS w true) := by
  have HE := Lib.hid hE
  have K1 := Lib.hid k1
  have K2 := Lib.hid k2
  have K3 := Lib.hid k3
  have K4 := Lib.hid k4
  have hb0 : (b == 0) = false := by simpa using h0
  have hwr : IntKind.i64.wrap (a.tmod b) = r := by rw [hw, hr]
  have hq : (r == a.tmod b) = true := by rw [hr]; exact beq_self_eq_true r
  clear hE k1 k2 k3 k4 hr hw hwr
  cases m0
  all_goals
    (try have hb1 := hm2 rfl)
    clear hm2
    go_enter Tryd.func5, Tryd.ntmps5
    go_wp2_with fail
    refine (examples10 _ HE.out).mono ?_
    rintro e w1 ⟨rfl, c⟩
    have C := Lib.hid c
    clear c
    have qt_0 : (w1.alloc (.cells #[.int .i64 1, .int .i64 0] 23)).cell? ⟨w1.heap.size, 0, none⟩ = some (.int .i64 1) := World.cell?_alloc_at _ _ _ _ (rfl)
    have qt_1 : (w1.alloc (.cells #[.int .i64 1, .int .i64 0] 23)).cell? ⟨w1.heap.size, 1, none⟩ = some (.int .i64 0) := World.cell?_alloc_at _ _ _ _ (rfl)
    replace C := Lib.hid (ba C.out (.cells #[.int .i64 1, .int .i64 0] 23))
    go_wp2_with fail
    refine (K1.out _).mono ?_
    rintro e w2 ⟨rfl, c⟩
    replace qt_0 : w2.cell? ⟨w1.heap.size, 0, none⟩ = some (.int .i64 1) := cell_later c qt_0
    replace qt_1 : w2.cell? ⟨w1.heap.size, 1, none⟩ = some (.int .i64 0) := cell_later c qt_1
    have lt : w1.heap.size < w2.heap.size := World.block_lt_of_cell? _ _ qt_0
    replace C := Lib.hid (bj C.out c)
    clear c
    replace qt_0 : (w2.alloc (.cells #[.bool false, .int .i64 q, .string ⟨#[]⟩] 25)).cell? ⟨w1.heap.size, 0, none⟩ = some (.int .i64 1) := past1 _ qt_0
    replace qt_1 : (w2.alloc (.cells #[.bool false, .int .i64 q, .string ⟨#[]⟩] 25)).cell? ⟨w1.heap.size, 1, none⟩ = some (.int .i64 0) := past1 _ qt_1
    have qq_0 : (w2.alloc (.cells #[.bool false, .int .i64 q, .string ⟨#[]⟩] 25)).cell? ⟨w2.heap.size, 0, none⟩ = some (.bool false) := World.cell?_alloc_at _ _ _ _ (rfl)
    have qq_1 : (w2.alloc (.cells #[.bool false, .int .i64 q, .string ⟨#[]⟩] 25)).cell? ⟨w2.heap.size, 1, none⟩ = some (.int .i64 q) := World.cell?_alloc_at _ _ _ _ (rfl)
    have qq_2 : (w2.alloc (.cells #[.bool false, .int .i64 q, .string ⟨#[]⟩] 25)).cell? ⟨w2.heap.size, 2, none⟩ = some (.string ⟨#[]⟩) := World.cell?_alloc_at _ _ _ _ (rfl)
    replace C := Lib.hid (ba C.out (.cells #[.bool false, .int .i64 q, .string ⟨#[]⟩] 25))
    go_wp2_with fail
    refine (K2.out _).mono ?_
    rintro e w3 ⟨rfl, c⟩
    replace qt_0 : w3.cell? ⟨w1.heap.size, 0, none⟩ = some (.int .i64 1) := cell_later c qt_0
    replace qt_1 : w3.cell? ⟨w1.heap.size, 1, none⟩ = some (.int .i64 0) := cell_later c qt_1
    replace qq_0 : w3.cell? ⟨w2.heap.size, 0, none⟩ = some (.bool false) := cell_later c qq_0
    replace qq_1 : w3.cell? ⟨w2.heap.size, 1, none⟩ = some (.int .i64 q) := cell_later c qq_1
    replace qq_2 : w3.cell? ⟨w2.heap.size, 2, none⟩ = some (.string ⟨#[]⟩) := cell_later c qq_2
    clear lt
    have lt : w1.heap.size < w3.heap.size := World.block_lt_of_cell? _ _ qt_0
    have lq : w2.heap.size < w3.heap.size := World.block_lt_of_cell? _ _ qq_0
    replace C := Lib.hid (bj C.out c)
    clear c
    replace qt_0 : (w3.alloc (.cells #[.bool false, .int .i64 p, .string ⟨#[]⟩] 25)).cell? ⟨w1.heap.size, 0, none⟩ = some (.int .i64 1) := past1 _ qt_0
    replace qt_1 : (w3.alloc (.cells #[.bool false, .int .i64 p, .string ⟨#[]⟩] 25)).cell? ⟨w1.heap.size, 1, none⟩ = some (.int .i64 0) := past1 _ qt_1
    replace qq_0 : (w3.alloc (.cells #[.bool false, .int .i64 p, .string ⟨#[]⟩] 25)).cell? ⟨w2.heap.size, 0, none⟩ = some (.bool false) := past1 _ qq_0
    replace qq_1 : (w3.alloc (.cells #[.bool false, .int .i64 p, .string ⟨#[]⟩] 25)).cell? ⟨w2.heap.size, 1, none⟩ = some (.int .i64 q) := past1 _ qq_1
    replace qq_2 : (w3.alloc (.cells #[.bool false, .int .i64 p, .string ⟨#[]⟩] 25)).cell? ⟨w2.heap.size, 2, none⟩ = some (.string ⟨#[]⟩) := past1 _ qq_2
    have qp_0 : (w3.alloc (.cells #[.bool false, .int .i64 p, .string ⟨#[]⟩] 25)).cell? ⟨w3.heap.size, 0, none⟩ = some (.bool false) := World.cell?_alloc_at _ _ _ _ (rfl)
    have qp_1 : (w3.alloc (.cells #[.bool false, .int .i64 p, .string ⟨#[]⟩] 25)).cell? ⟨w3.heap.size, 1, none⟩ = some (.int .i64 p) := World.cell?_alloc_at _ _ _ _ (rfl)
    have qp_2 : (w3.alloc (.cells #[.bool false, .int .i64 p, .string ⟨#[]⟩] 25)).cell? ⟨w3.heap.size, 2, none⟩ = some (.string ⟨#[]⟩) := World.cell?_alloc_at _ _ _ _ (rfl)
    replace C := Lib.hid (ba C.out (.cells #[.bool false, .int .i64 p, .string ⟨#[]⟩] 25))
    go_wp2_with fail
    refine (K3.out _).mono ?_
    rintro e w4 ⟨rfl, c⟩
    replace qt_0 : w4.cell? ⟨w1.heap.size, 0, none⟩ = some (.int .i64 1) := cell_later c qt_0
    replace qt_1 : w4.cell? ⟨w1.heap.size, 1, none⟩ = some (.int .i64 0) := cell_later c qt_1
    replace qq_0 : w4.cell? ⟨w2.heap.size, 0, none⟩ = some (.bool false) := cell_later c qq_0
    replace qq_1 : w4.cell? ⟨w2.heap.size, 1, none⟩ = some (.int .i64 q) := cell_later c qq_1
    replace qq_2 : w4.cell? ⟨w2.heap.size, 2, none⟩ = some (.string ⟨#[]⟩) := cell_later c qq_2
    replace qp_0 : w4.cell? ⟨w3.heap.size, 0, none⟩ = some (.bool false) := cell_later c qp_0
    replace qp_1 : w4.cell? ⟨w3.heap.size, 1, none⟩ = some (.int .i64 p) := cell_later c qp_1
    replace qp_2 : w4.cell? ⟨w3.heap.size, 2, none⟩ = some (.string ⟨#[]⟩) := cell_later c qp_2
    clear lt
    have lt : w1.heap.size < w4.heap.size := World.block_lt_of_cell? _ _ qt_0
    clear lq
    have lq : w2.heap.size < w4.heap.size := World.block_lt_of_cell? _ _ qq_0
    have lp : w3.heap.size < w4.heap.size := World.block_lt_of_cell? _ _ qp_0
    replace C := Lib.hid (bj C.out c)
    clear c
    replace qt_0 : (w4.alloc (.cells #[.bool false, .int .i64 r, .string ⟨#[]⟩] 25)).cell? ⟨w1.heap.size, 0, none⟩ = some (.int .i64 1) := past1 _ qt_0
    replace qt_1 : (w4.alloc (.cells #[.bool false, .int .i64 r, .string ⟨#[]⟩] 25)).cell? ⟨w1.heap.size, 1, none⟩ = some (.int .i64 0) := past1 _ qt_1
    replace qq_0 : (w4.alloc (.cells #[.bool false, .int .i64 r, .string ⟨#[]⟩] 25)).cell? ⟨w2.heap.size, 0, none⟩ = some (.bool false) := past1 _ qq_0
    replace qq_1 : (w4.alloc (.cells #[.bool false, .int .i64 r, .string ⟨#[]⟩] 25)).cell? ⟨w2.heap.size, 1, none⟩ = some (.int .i64 q) := past1 _ qq_1
    replace qq_2 : (w4.alloc (.cells #[.bool false, .int .i64 r, .string ⟨#[]⟩] 25)).cell? ⟨w2.heap.size, 2, none⟩ = some (.string ⟨#[]⟩) := past1 _ qq_2
    replace qp_0 : (w4.alloc (.cells #[.bool false, .int .i64 r, .string ⟨#[]⟩] 25)).cell? ⟨w3.heap.size, 0, none⟩ = some (.bool false) := past1 _ qp_0
    replace qp_1 : (w4.alloc (.cells #[.bool false, .int .i64 r, .string ⟨#[]⟩] 25)).cell? ⟨w3.heap.size, 1, none⟩ = some (.int .i64 p) := past1 _ qp_1
    replace qp_2 : (w4.alloc (.cells #[.bool false, .int .i64 r, .string ⟨#[]⟩] 25)).cell? ⟨w3.heap.size, 2, none⟩ = some (.string ⟨#[]⟩) := past1 _ qp_2
    have qr_0 : (w4.alloc (.cells #[.bool false, .int .i64 r, .string ⟨#[]⟩] 25)).cell? ⟨w4.heap.size, 0, none⟩ = some (.bool false) := World.cell?_alloc_at _ _ _ _ (rfl)
    have qr_1 : (w4.alloc (.cells #[.bool false, .int .i64 r, .string ⟨#[]⟩] 25)).cell? ⟨w4.heap.size, 1, none⟩ = some (.int .i64 r) := World.cell?_alloc_at _ _ _ _ (rfl)
    have qr_2 : (w4.alloc (.cells #[.bool false, .int .i64 r, .string ⟨#[]⟩] 25)).cell? ⟨w4.heap.size, 2, none⟩ = some (.string ⟨#[]⟩) := World.cell?_alloc_at _ _ _ _ (rfl)
    replace C := Lib.hid (ba C.out (.cells #[.bool false, .int .i64 r, .string ⟨#[]⟩] 25))
    go_wp2_with fail
    refine (K4.out _).mono ?_
    rintro e w5 ⟨rfl, c⟩
    replace qt_0 : w5.cell? ⟨w1.heap.size, 0, none⟩ = some (.int .i64 1) := cell_later c qt_0
    replace qt_1 : w5.cell? ⟨w1.heap.size, 1, none⟩ = some (.int .i64 0) := cell_later c qt_1
    replace qq_0 : w5.cell? ⟨w2.heap.size, 0, none⟩ = some (.bool false) := cell_later c qq_0
    replace qq_1 : w5.cell? ⟨w2.heap.size, 1, none⟩ = some (.int .i64 q) := cell_later c qq_1
    replace qq_2 : w5.cell? ⟨w2.heap.size, 2, none⟩ = some (.string ⟨#[]⟩) := cell_later c qq_2
    replace qp_0 : w5.cell? ⟨w3.heap.size, 0, none⟩ = some (.bool false) := cell_later c qp_0
    replace qp_1 : w5.cell? ⟨w3.heap.size, 1, none⟩ = some (.int .i64 p) := cell_later c qp_1
    replace qp_2 : w5.cell? ⟨w3.heap.size, 2, none⟩ = some (.string ⟨#[]⟩) := cell_later c qp_2
    replace qr_0 : w5.cell? ⟨w4.heap.size, 0, none⟩ = some (.bool false) := cell_later c qr_0
    replace qr_1 : w5.cell? ⟨w4.heap.size, 1, none⟩ = some (.int .i64 r) := cell_later c qr_1
    replace qr_2 : w5.cell? ⟨w4.heap.size, 2, none⟩ = some (.string ⟨#[]⟩) := cell_later c qr_2
    clear lt
    have lt : w1.heap.size < w5.heap.size := World.block_lt_of_cell? _ _ qt_0
    clear lq
    have lq : w2.heap.size < w5.heap.size := World.block_lt_of_cell? _ _ qq_0
    clear lp
    have lp : w3.heap.size < w5.heap.size := World.block_lt_of_cell? _ _ qp_0
    have lr : w4.heap.size < w5.heap.size := World.block_lt_of_cell? _ _ qr_0
    replace C := Lib.hid (bj C.out c)
    clear c
    replace qt_0 : (w5.alloc (.cells #[.bool true, .int .i64 0, .string ⟨#[]⟩] 25)).cell? ⟨w1.heap.size, 0, none⟩ = some (.int .i64 1) := past1 _ qt_0
    replace qt_1 : (w5.alloc (.cells #[.bool true, .int .i64 0, .string ⟨#[]⟩] 25)).cell? ⟨w1.heap.size, 1, none⟩ = some (.int .i64 0) := past1 _ qt_1
    replace qq_0 : (w5.alloc (.cells #[.bool true, .int .i64 0, .string ⟨#[]⟩] 25)).cell? ⟨w2.heap.size, 0, none⟩ = some (.bool false) := past1 _ qq_0
    replace qq_1 : (w5.alloc (.cells #[.bool true, .int .i64 0, .string ⟨#[]⟩] 25)).cell? ⟨w2.heap.size, 1, none⟩ = some (.int .i64 q) := past1 _ qq_1
    replace qq_2 : (w5.alloc (.cells #[.bool true, .int .i64 0, .string ⟨#[]⟩] 25)).cell? ⟨w2.heap.size, 2, none⟩ = some (.string ⟨#[]⟩) := past1 _ qq_2
    replace qp_0 : (w5.alloc (.cells #[.bool true, .int .i64 0, .string ⟨#[]⟩] 25)).cell? ⟨w3.heap.size, 0, none⟩ = some (.bool false) := past1 _ qp_0
    replace qp_1 : (w5.alloc (.cells #[.bool true, .int .i64 0, .string ⟨#[]⟩] 25)).cell? ⟨w3.heap.size, 1, none⟩ = some (.int .i64 p) := past1 _ qp_1
    replace qp_2 : (w5.alloc (.cells #[.bool true, .int .i64 0, .string ⟨#[]⟩] 25)).cell? ⟨w3.heap.size, 2, none⟩ = some (.string ⟨#[]⟩) := past1 _ qp_2
    replace qr_0 : (w5.alloc (.cells #[.bool true, .int .i64 0, .string ⟨#[]⟩] 25)).cell? ⟨w4.heap.size, 0, none⟩ = some (.bool false) := past1 _ qr_0
    replace qr_1 : (w5.alloc (.cells #[.bool true, .int .i64 0, .string ⟨#[]⟩] 25)).cell? ⟨w4.heap.size, 1, none⟩ = some (.int .i64 r) := past1 _ qr_1
    replace qr_2 : (w5.alloc (.cells #[.bool true, .int .i64 0, .string ⟨#[]⟩] 25)).cell? ⟨w4.heap.size, 2, none⟩ = some (.string ⟨#[]⟩) := past1 _ qr_2
    have qn_0 : (w5.alloc (.cells #[.bool true, .int .i64 0, .string ⟨#[]⟩] 25)).cell? ⟨w5.heap.size, 0, none⟩ = some (.bool true) := World.cell?_alloc_at _ _ _ _ (rfl)
    have qn_1 : (w5.alloc (.cells #[.bool true, .int .i64 0, .string ⟨#[]⟩] 25)).cell? ⟨w5.heap.size, 1, none⟩ = some (.int .i64 0) := World.cell?_alloc_at _ _ _ _ (rfl)
    have qn_2 : (w5.alloc (.cells #[.bool true, .int .i64 0, .string ⟨#[]⟩] 25)).cell? ⟨w5.heap.size, 2, none⟩ = some (.string ⟨#[]⟩) := World.cell?_alloc_at _ _ _ _ (rfl)
    replace C := Lib.hid (ba C.out (.cells #[.bool true, .int .i64 0, .string ⟨#[]⟩] 25))
    go_wp2_with fail
    go_quiet (fail)
    go_wp2_with fail
    go_ret
    first | exact ⟨by simp, C.out⟩ | exact ⟨by simp, C.out.drew⟩ | exact ⟨by simp, bdn _ C.out⟩
theorem divides_walk (a b : Int) (ha : I64 a) (hb : I64 b) (w : World) (hE : VEnv w) : Calls Tryd.prog 5 #[.int .i64 a, .int .i64 b] w (BoolS w true) := by
  by_cases h : b = 0 ∨ (a = -9223372036854775808 ∧ b = -1)
  · exact divides_bad a b ha hb h w hE
  · refine divides_core a b (a.tdiv b) (a.tdiv b * b) (a.tmod b) _ w hE (fun k => h (.inl k)) rfl (fun e => ?_) rfl (wrap_rest b ha) (fun W => arith_any 47 (numVa a) (numVa b) ⟨1, 0⟩ ⟨1, 0⟩ ha hb W _ _ (div_ok a b h)) (fun W => arith_any 42 (numVa (a.tdiv b)) (numVa b) ⟨1, 0⟩ ⟨1, 0⟩ (quot_i64 ha h) hb W _ _ (quot_times a b ha)) (fun W => arith_any 45 (numVa a) (numVa (a.tdiv b * b)) ⟨1, 0⟩ ⟨1, 0⟩ ha (quot_in b ha) W _ _ (quot_less a b ha)) (fun W => arith_any 47 nullVa noVa ⟨1, 0⟩ ⟨1, 0⟩ (by unfold I64; decide) (by unfold I64; decide) W _ _ div_null)
    have e2 : a = -9223372036854775808 := by simpa using e
    simp only [beq_eq_false_iff_ne]
    exact fun k => h (.inr ⟨e2, k⟩)
end Go.Proofs.YtafnjkeljjeamaaDoor.Val
