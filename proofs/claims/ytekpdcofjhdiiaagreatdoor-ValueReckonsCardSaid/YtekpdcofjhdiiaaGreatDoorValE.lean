/-
  The reference's ArithType, and reckon, of chapter 10. No condition beyond what each theorem names.
-/
import Derived.Test.YtekpdcofjhdiiaaGreatDoorValD
namespace Go.Proofs.YtekpdcofjhdiiaaGreatDoor.Val
open Go.RowKit Go.Maps
set_option linter.unusedVariables false
set_option linter.unusedSimpArgs false
def TyS (w : World) (t : Ty) (e : Ending) (w' : World) : Prop := e = .returned (.agg #[.int .i64 t.kind, .int .i64 t.scale]) ∧ Below w.heap.size w w'
set_option maxRecDepth 100000 in
set_option maxHeartbeats 1000000 in
theorem typed_any (s : Int) (w : World) : Calls Tryz.prog 51 #[.int .i64 s] w (TyS w (typed s)) := by
  by_cases h : s = 0
  · subst h
    go_enter Tryz.func51, Tryz.ntmps51
    go_wp2_with fail
    exact bodyPost_ret (v := .agg #[.int .i64 1, .int .i64 0]) (by simp [results, Tryz.results51, go_sem]) rfl ⟨rfl, below1 _ _⟩
  · have e : (s == 0) = false := beq_eq_false_iff_ne.2 h
    have ht : typed s = ⟨2, s⟩ := if_neg h
    rw [ht]
    clear h ht
    go_enter Tryz.func51, Tryz.ntmps51
    go_wp2_with fail
    exact bodyPost_ret (v := .agg #[.int .i64 2, .int .i64 s]) (by simp [results, Tryz.results51, go_sem]) rfl ⟨rfl, below1 _ _⟩
set_option maxRecDepth 100000 in
set_option maxHeartbeats 2000000 in
theorem raty_ff (op : UInt8) (ka sa kb sb : Int) (w : World) (h1 : tyB ⟨ka, sa⟩ = false) (h2 : tyB ⟨kb, sb⟩ = false) : Calls Tryz.prog 23 #[.int .u8 (op.toNat : Int), .agg #[.int .i64 ka, .int .i64 sa], .agg #[.int .i64 kb, .int .i64 sb]] w (AtyS w none) := by
  have H1 := Lib.hid h1
  have H2 := Lib.hid h2
  clear h1 h2
  obtain ⟨hA0, hB0, hS0⟩ := args3_at w ka sa kb sb
  have HA := Lib.hid hA0
  have CX := Lib.hid hB0
  have HS0 := Lib.hid hS0
  clear hA0 hB0 hS0
  go_enter Tryz.func23, Tryz.ntmps23
  go_wp2_with fail
  refine (rty_any ka sa _ _ H1.out).mono ?_
  rintro e w5 ⟨rfl, c5⟩
  have HA := Lib.hid (HA.out.later c5)
  have CX := Lib.hid (CX.out.trans (c5.mono CX.out.size))
  clear c5
  obtain ⟨y0, y1, z0, z1, r0, r1, fr⟩ := HA.out.cells
  go_wp2_with fail
  refine (rty_any kb sb _ _ H2.out).mono ?_
  rintro e w6 ⟨rfl, c6⟩
  have HA := Lib.hid (HA.out.later c6)
  have CX := Lib.hid (CX.out.trans (c6.mono CX.out.size))
  clear c6 y0 y1 z0 z1 r0 r1 fr
  obtain ⟨y0, y1, z0, z1, r0, r1, fr⟩ := HA.out.cells
  go_wp2_with fail
  exact bodyPost_ret (v := .tuple #[.agg #[.int .i64 0, .int .i64 0], .bool false]) (by simp [results, Tryz.results23, go_sem, r0, r1, fr]) rfl (aty_none CX.out _ _)
set_option maxRecDepth 100000 in
set_option maxHeartbeats 2000000 in
theorem raty_ft (op : UInt8) (ka sa kb sb : Int) (w : World) (h1 : tyB ⟨ka, sa⟩ = false) (h2 : tyB ⟨kb, sb⟩ = true) : Calls Tryz.prog 23 #[.int .u8 (op.toNat : Int), .agg #[.int .i64 ka, .int .i64 sa], .agg #[.int .i64 kb, .int .i64 sb]] w (AtyS w none) := by
  have H1 := Lib.hid h1
  have H2 := Lib.hid h2
  clear h1 h2
  obtain ⟨hA0, hB0, hS0⟩ := args3_at w ka sa kb sb
  have HA := Lib.hid hA0
  have CX := Lib.hid hB0
  have HS0 := Lib.hid hS0
  clear hA0 hB0 hS0
  go_enter Tryz.func23, Tryz.ntmps23
  go_wp2_with fail
  refine (rty_any ka sa _ _ H1.out).mono ?_
  rintro e w5 ⟨rfl, c5⟩
  have HA := Lib.hid (HA.out.later c5)
  have CX := Lib.hid (CX.out.trans (c5.mono CX.out.size))
  clear c5
  obtain ⟨y0, y1, z0, z1, r0, r1, fr⟩ := HA.out.cells
  go_wp2_with fail
  refine (rty_any kb sb _ _ H2.out).mono ?_
  rintro e w6 ⟨rfl, c6⟩
  have HA := Lib.hid (HA.out.later c6)
  have CX := Lib.hid (CX.out.trans (c6.mono CX.out.size))
  clear c6 y0 y1 z0 z1 r0 r1 fr
  obtain ⟨y0, y1, z0, z1, r0, r1, fr⟩ := HA.out.cells
  go_wp2_with fail
  exact bodyPost_ret (v := .tuple #[.agg #[.int .i64 0, .int .i64 0], .bool false]) (by simp [results, Tryz.results23, go_sem, r0, r1, fr]) rfl (aty_none CX.out _ _)
set_option maxRecDepth 100000 in
set_option maxHeartbeats 2000000 in
theorem raty_tf (op : UInt8) (ka sa kb sb : Int) (w : World) (h1 : tyB ⟨ka, sa⟩ = true) (h2 : tyB ⟨kb, sb⟩ = false) : Calls Tryz.prog 23 #[.int .u8 (op.toNat : Int), .agg #[.int .i64 ka, .int .i64 sa], .agg #[.int .i64 kb, .int .i64 sb]] w (AtyS w none) := by
  have H1 := Lib.hid h1
  have H2 := Lib.hid h2
  clear h1 h2
  obtain ⟨hA0, hB0, hS0⟩ := args3_at w ka sa kb sb
  have HA := Lib.hid hA0
  have CX := Lib.hid hB0
  have HS0 := Lib.hid hS0
  clear hA0 hB0 hS0
  go_enter Tryz.func23, Tryz.ntmps23
  go_wp2_with fail
  refine (rty_any ka sa _ _ H1.out).mono ?_
  rintro e w5 ⟨rfl, c5⟩
  have HA := Lib.hid (HA.out.later c5)
  have CX := Lib.hid (CX.out.trans (c5.mono CX.out.size))
  clear c5
  obtain ⟨y0, y1, z0, z1, r0, r1, fr⟩ := HA.out.cells
  go_wp2_with fail
  refine (rty_any kb sb _ _ H2.out).mono ?_
  rintro e w6 ⟨rfl, c6⟩
  have HA := Lib.hid (HA.out.later c6)
  have CX := Lib.hid (CX.out.trans (c6.mono CX.out.size))
  clear c6 y0 y1 z0 z1 r0 r1 fr
  obtain ⟨y0, y1, z0, z1, r0, r1, fr⟩ := HA.out.cells
  go_wp2_with fail
  exact bodyPost_ret (v := .tuple #[.agg #[.int .i64 0, .int .i64 0], .bool false]) (by simp [results, Tryz.results23, go_sem, r0, r1, fr]) rfl (aty_none CX.out _ _)
set_option maxRecDepth 100000 in
set_option maxHeartbeats 2000000 in
theorem raty_na (op : UInt8) (ka sa kb sb : Int) (w : World) (h1 : tyB ⟨ka, sa⟩ = true) (h2 : tyB ⟨kb, sb⟩ = true) (x : Bool) (hna : (ka == 1 || ka == 2) = false) (hnb : (kb == 1 || kb == 2) = x) : Calls Tryz.prog 23 #[.int .u8 (op.toNat : Int), .agg #[.int .i64 ka, .int .i64 sa], .agg #[.int .i64 kb, .int .i64 sb]] w (AtyS w none) := by
  have H1 := Lib.hid h1
  have H2 := Lib.hid h2
  clear h1 h2
  have HNA := Lib.hid hna
  have HNB := Lib.hid hnb
  clear hna hnb
  obtain ⟨hA0, hB0, hS0⟩ := args3_at w ka sa kb sb
  have HA := Lib.hid hA0
  have CX := Lib.hid hB0
  have HS0 := Lib.hid hS0
  clear hA0 hB0 hS0
  go_enter Tryz.func23, Tryz.ntmps23
  go_wp2_with fail
  refine (rty_any ka sa _ _ H1.out).mono ?_
  rintro e w5 ⟨rfl, c5⟩
  have HA := Lib.hid (HA.out.later c5)
  have CX := Lib.hid (CX.out.trans (c5.mono CX.out.size))
  clear c5
  obtain ⟨y0, y1, z0, z1, r0, r1, fr⟩ := HA.out.cells
  go_wp2_with fail
  refine (rty_any kb sb _ _ H2.out).mono ?_
  rintro e w6 ⟨rfl, c6⟩
  have HA := Lib.hid (HA.out.later c6)
  have CX := Lib.hid (CX.out.trans (c6.mono CX.out.size))
  clear c6 y0 y1 z0 z1 r0 r1 fr
  obtain ⟨y0, y1, z0, z1, r0, r1, fr⟩ := HA.out.cells
  go_wp2_with fail
  refine (rnum_any ka sa _).mono ?_
  rintro e w7 ⟨rfl, c7⟩
  rw [HNA.out]
  have HA := Lib.hid (HA.out.later c7)
  have CX := Lib.hid (CX.out.trans (c7.mono CX.out.size))
  clear c7 y0 y1 z0 z1 r0 r1 fr
  obtain ⟨y0, y1, z0, z1, r0, r1, fr⟩ := HA.out.cells
  go_wp2_with fail
  exact bodyPost_ret (v := .tuple #[.agg #[.int .i64 0, .int .i64 0], .bool false]) (by simp [results, Tryz.results23, go_sem, r0, r1, fr]) rfl (aty_none CX.out _ _)
set_option maxRecDepth 100000 in
set_option maxHeartbeats 2000000 in
theorem raty_nb (op : UInt8) (ka sa kb sb : Int) (w : World) (h1 : tyB ⟨ka, sa⟩ = true) (h2 : tyB ⟨kb, sb⟩ = true) (hna : (ka == 1 || ka == 2) = true) (hnb : (kb == 1 || kb == 2) = false) : Calls Tryz.prog 23 #[.int .u8 (op.toNat : Int), .agg #[.int .i64 ka, .int .i64 sa], .agg #[.int .i64 kb, .int .i64 sb]] w (AtyS w none) := by
  have H1 := Lib.hid h1
  have H2 := Lib.hid h2
  clear h1 h2
  have HNA := Lib.hid hna
  have HNB := Lib.hid hnb
  clear hna hnb
  obtain ⟨hA0, hB0, hS0⟩ := args3_at w ka sa kb sb
  have HA := Lib.hid hA0
  have CX := Lib.hid hB0
  have HS0 := Lib.hid hS0
  clear hA0 hB0 hS0
  go_enter Tryz.func23, Tryz.ntmps23
  go_wp2_with fail
  refine (rty_any ka sa _ _ H1.out).mono ?_
  rintro e w5 ⟨rfl, c5⟩
  have HA := Lib.hid (HA.out.later c5)
  have CX := Lib.hid (CX.out.trans (c5.mono CX.out.size))
  clear c5
  obtain ⟨y0, y1, z0, z1, r0, r1, fr⟩ := HA.out.cells
  go_wp2_with fail
  refine (rty_any kb sb _ _ H2.out).mono ?_
  rintro e w6 ⟨rfl, c6⟩
  have HA := Lib.hid (HA.out.later c6)
  have CX := Lib.hid (CX.out.trans (c6.mono CX.out.size))
  clear c6 y0 y1 z0 z1 r0 r1 fr
  obtain ⟨y0, y1, z0, z1, r0, r1, fr⟩ := HA.out.cells
  go_wp2_with fail
  refine (rnum_any ka sa _).mono ?_
  rintro e w7 ⟨rfl, c7⟩
  rw [HNA.out]
  have HA := Lib.hid (HA.out.later c7)
  have CX := Lib.hid (CX.out.trans (c7.mono CX.out.size))
  clear c7 y0 y1 z0 z1 r0 r1 fr
  obtain ⟨y0, y1, z0, z1, r0, r1, fr⟩ := HA.out.cells
  go_wp2_with fail
  refine (rnum_any kb sb _).mono ?_
  rintro e w8 ⟨rfl, c8⟩
  rw [HNB.out]
  have HA := Lib.hid (HA.out.later c8)
  have CX := Lib.hid (CX.out.trans (c8.mono CX.out.size))
  clear c8 y0 y1 z0 z1 r0 r1 fr
  obtain ⟨y0, y1, z0, z1, r0, r1, fr⟩ := HA.out.cells
  go_wp2_with fail
  exact bodyPost_ret (v := .tuple #[.agg #[.int .i64 0, .int .i64 0], .bool false]) (by simp [results, Tryz.results23, go_sem, r0, r1, fr]) rfl (aty_none CX.out _ _)
set_option maxRecDepth 100000 in
set_option maxHeartbeats 2000000 in
theorem raty_p (op : UInt8) (ka sa kb sb : Int) (w : World) (h1 : tyB ⟨ka, sa⟩ = true) (h2 : tyB ⟨kb, sb⟩ = true) (hna : (ka == 1 || ka == 2) = true) (hnb : (kb == 1 || kb == 2) = true) (h43 : (op == 43) = true) : Calls Tryz.prog 23 #[.int .u8 (op.toNat : Int), .agg #[.int .i64 ka, .int .i64 sa], .agg #[.int .i64 kb, .int .i64 sb]] w (AtyS w (some (max sa sb))) := by
  have H1 := Lib.hid h1
  have H2 := Lib.hid h2
  clear h1 h2
  have HNA := Lib.hid hna
  have HNB := Lib.hid hnb
  clear hna hnb
  have e43 : ((op.toNat : Int) == 43) = true := by rw [show (43 : Int) = ((43 : Nat) : Int) from rfl, op_num op 43 (by decide)]; exact h43
  clear h43
  obtain ⟨hA0, hB0, hS0⟩ := args3_at w ka sa kb sb
  have HA := Lib.hid hA0
  have CX := Lib.hid hB0
  have HS0 := Lib.hid hS0
  clear hA0 hB0 hS0
  go_enter Tryz.func23, Tryz.ntmps23
  go_wp2_with fail
  refine (rty_any ka sa _ _ H1.out).mono ?_
  rintro e w5 ⟨rfl, c5⟩
  have HA := Lib.hid (HA.out.later c5)
  have CX := Lib.hid (CX.out.trans (c5.mono CX.out.size))
  clear c5
  obtain ⟨y0, y1, z0, z1, r0, r1, fr⟩ := HA.out.cells
  go_wp2_with fail
  refine (rty_any kb sb _ _ H2.out).mono ?_
  rintro e w6 ⟨rfl, c6⟩
  have HA := Lib.hid (HA.out.later c6)
  have CX := Lib.hid (CX.out.trans (c6.mono CX.out.size))
  clear c6 y0 y1 z0 z1 r0 r1 fr
  obtain ⟨y0, y1, z0, z1, r0, r1, fr⟩ := HA.out.cells
  go_wp2_with fail
  refine (rnum_any ka sa _).mono ?_
  rintro e w7 ⟨rfl, c7⟩
  rw [HNA.out]
  have HA := Lib.hid (HA.out.later c7)
  have CX := Lib.hid (CX.out.trans (c7.mono CX.out.size))
  clear c7 y0 y1 z0 z1 r0 r1 fr
  obtain ⟨y0, y1, z0, z1, r0, r1, fr⟩ := HA.out.cells
  go_wp2_with fail
  refine (rnum_any kb sb _).mono ?_
  rintro e w8 ⟨rfl, c8⟩
  rw [HNB.out]
  have HA := Lib.hid (HA.out.later c8)
  have CX := Lib.hid (CX.out.trans (c8.mono CX.out.size))
  clear c8 y0 y1 z0 z1 r0 r1 fr
  obtain ⟨y0, y1, z0, z1, r0, r1, fr⟩ := HA.out.cells
  go_wp2_with fail
  refine (typed_any (max sa sb) _).mono ?_
  rintro e w9 ⟨rfl, c9⟩
  obtain ⟨K, hK⟩ : ∃ K, (typed (max sa sb)).kind = K := ⟨_, rfl⟩
  obtain ⟨Z, hZ⟩ : ∃ Z, (typed (max sa sb)).scale = Z := ⟨_, rfl⟩
  rw [hK, hZ]
  have HA := Lib.hid (HA.out.later c9)
  have CX := Lib.hid (CX.out.trans (c9.mono CX.out.size))
  have HK := Lib.hid hK
  have HZ := Lib.hid hZ
  clear c9 y0 y1 z0 z1 r0 r1 fr hK hZ
  obtain ⟨y0, y1, z0, z1, r0, r1, fr⟩ := HA.out.cells
  go_wp2_with fail
  exact bodyPost_ret (v := .tuple #[.agg #[.int .i64 K, .int .i64 Z], .bool true]) (by simp [results, Tryz.results23, go_sem, r0, r1, fr]) rfl (aty_some CX.out HK.out HZ.out _ _)
set_option maxRecDepth 100000 in
set_option maxHeartbeats 2000000 in
theorem raty_m (op : UInt8) (ka sa kb sb : Int) (w : World) (h1 : tyB ⟨ka, sa⟩ = true) (h2 : tyB ⟨kb, sb⟩ = true) (hna : (ka == 1 || ka == 2) = true) (hnb : (kb == 1 || kb == 2) = true) (h43 : (op == 43) = false) (h45 : (op == 45) = true) : Calls Tryz.prog 23 #[.int .u8 (op.toNat : Int), .agg #[.int .i64 ka, .int .i64 sa], .agg #[.int .i64 kb, .int .i64 sb]] w (AtyS w (some (max sa sb))) := by
  have H1 := Lib.hid h1
  have H2 := Lib.hid h2
  clear h1 h2
  have HNA := Lib.hid hna
  have HNB := Lib.hid hnb
  clear hna hnb
  have e43 : ((op.toNat : Int) == 43) = false := by rw [show (43 : Int) = ((43 : Nat) : Int) from rfl, op_num op 43 (by decide)]; exact h43
  have e45 : ((op.toNat : Int) == 45) = true := by rw [show (45 : Int) = ((45 : Nat) : Int) from rfl, op_num op 45 (by decide)]; exact h45
  clear h43 h45
  obtain ⟨hA0, hB0, hS0⟩ := args3_at w ka sa kb sb
  have HA := Lib.hid hA0
  have CX := Lib.hid hB0
  have HS0 := Lib.hid hS0
  clear hA0 hB0 hS0
  go_enter Tryz.func23, Tryz.ntmps23
  go_wp2_with fail
  refine (rty_any ka sa _ _ H1.out).mono ?_
  rintro e w5 ⟨rfl, c5⟩
  have HA := Lib.hid (HA.out.later c5)
  have CX := Lib.hid (CX.out.trans (c5.mono CX.out.size))
  clear c5
  obtain ⟨y0, y1, z0, z1, r0, r1, fr⟩ := HA.out.cells
  go_wp2_with fail
  refine (rty_any kb sb _ _ H2.out).mono ?_
  rintro e w6 ⟨rfl, c6⟩
  have HA := Lib.hid (HA.out.later c6)
  have CX := Lib.hid (CX.out.trans (c6.mono CX.out.size))
  clear c6 y0 y1 z0 z1 r0 r1 fr
  obtain ⟨y0, y1, z0, z1, r0, r1, fr⟩ := HA.out.cells
  go_wp2_with fail
  refine (rnum_any ka sa _).mono ?_
  rintro e w7 ⟨rfl, c7⟩
  rw [HNA.out]
  have HA := Lib.hid (HA.out.later c7)
  have CX := Lib.hid (CX.out.trans (c7.mono CX.out.size))
  clear c7 y0 y1 z0 z1 r0 r1 fr
  obtain ⟨y0, y1, z0, z1, r0, r1, fr⟩ := HA.out.cells
  go_wp2_with fail
  refine (rnum_any kb sb _).mono ?_
  rintro e w8 ⟨rfl, c8⟩
  rw [HNB.out]
  have HA := Lib.hid (HA.out.later c8)
  have CX := Lib.hid (CX.out.trans (c8.mono CX.out.size))
  clear c8 y0 y1 z0 z1 r0 r1 fr
  obtain ⟨y0, y1, z0, z1, r0, r1, fr⟩ := HA.out.cells
  go_wp2_with fail
  refine (typed_any (max sa sb) _).mono ?_
  rintro e w9 ⟨rfl, c9⟩
  obtain ⟨K, hK⟩ : ∃ K, (typed (max sa sb)).kind = K := ⟨_, rfl⟩
  obtain ⟨Z, hZ⟩ : ∃ Z, (typed (max sa sb)).scale = Z := ⟨_, rfl⟩
  rw [hK, hZ]
  have HA := Lib.hid (HA.out.later c9)
  have CX := Lib.hid (CX.out.trans (c9.mono CX.out.size))
  have HK := Lib.hid hK
  have HZ := Lib.hid hZ
  clear c9 y0 y1 z0 z1 r0 r1 fr hK hZ
  obtain ⟨y0, y1, z0, z1, r0, r1, fr⟩ := HA.out.cells
  go_wp2_with fail
  exact bodyPost_ret (v := .tuple #[.agg #[.int .i64 K, .int .i64 Z], .bool true]) (by simp [results, Tryz.results23, go_sem, r0, r1, fr]) rfl (aty_some CX.out HK.out HZ.out _ _)
set_option maxRecDepth 100000 in
set_option maxHeartbeats 2000000 in
theorem raty_t (op : UInt8) (ka sa kb sb : Int) (w : World) (h1 : tyB ⟨ka, sa⟩ = true) (h2 : tyB ⟨kb, sb⟩ = true) (hna : (ka == 1 || ka == 2) = true) (hnb : (kb == 1 || kb == 2) = true) (a0 : 0 ≤ sa) (a9 : sa ≤ 9) (b0 : 0 ≤ sb) (b9 : sb ≤ 9) (h43 : (op == 43) = false) (h45 : (op == 45) = false) (h42 : (op == 42) = true) (hs : sa + sb ≤ 9) : Calls Tryz.prog 23 #[.int .u8 (op.toNat : Int), .agg #[.int .i64 ka, .int .i64 sa], .agg #[.int .i64 kb, .int .i64 sb]] w (AtyS w (some (sa + sb))) := by
  have H1 := Lib.hid h1
  have H2 := Lib.hid h2
  clear h1 h2
  have HNA := Lib.hid hna
  have HNB := Lib.hid hnb
  clear hna hnb
  have e43 : ((op.toNat : Int) == 43) = false := by rw [show (43 : Int) = ((43 : Nat) : Int) from rfl, op_num op 43 (by decide)]; exact h43
  have e45 : ((op.toNat : Int) == 45) = false := by rw [show (45 : Int) = ((45 : Nat) : Int) from rfl, op_num op 45 (by decide)]; exact h45
  have e42 : ((op.toNat : Int) == 42) = true := by rw [show (42 : Int) = ((42 : Nat) : Int) from rfl, op_num op 42 (by decide)]; exact h42
  clear h43 h45 h42
  have ds : decide (sa + sb ≤ 9) = true := decide_eq_true hs
  obtain ⟨hA0, hB0, hS0⟩ := args3_at w ka sa kb sb
  have HA := Lib.hid hA0
  have CX := Lib.hid hB0
  have HS0 := Lib.hid hS0
  clear hA0 hB0 hS0
  go_enter Tryz.func23, Tryz.ntmps23
  go_wp2_with fail
  refine (rty_any ka sa _ _ H1.out).mono ?_
  rintro e w5 ⟨rfl, c5⟩
  have HA := Lib.hid (HA.out.later c5)
  have CX := Lib.hid (CX.out.trans (c5.mono CX.out.size))
  clear c5
  obtain ⟨y0, y1, z0, z1, r0, r1, fr⟩ := HA.out.cells
  go_wp2_with fail
  refine (rty_any kb sb _ _ H2.out).mono ?_
  rintro e w6 ⟨rfl, c6⟩
  have HA := Lib.hid (HA.out.later c6)
  have CX := Lib.hid (CX.out.trans (c6.mono CX.out.size))
  clear c6 y0 y1 z0 z1 r0 r1 fr
  obtain ⟨y0, y1, z0, z1, r0, r1, fr⟩ := HA.out.cells
  go_wp2_with fail
  refine (rnum_any ka sa _).mono ?_
  rintro e w7 ⟨rfl, c7⟩
  rw [HNA.out]
  have HA := Lib.hid (HA.out.later c7)
  have CX := Lib.hid (CX.out.trans (c7.mono CX.out.size))
  clear c7 y0 y1 z0 z1 r0 r1 fr
  obtain ⟨y0, y1, z0, z1, r0, r1, fr⟩ := HA.out.cells
  go_wp2_with fail
  refine (rnum_any kb sb _).mono ?_
  rintro e w8 ⟨rfl, c8⟩
  rw [HNB.out]
  have HA := Lib.hid (HA.out.later c8)
  have CX := Lib.hid (CX.out.trans (c8.mono CX.out.size))
  clear c8 y0 y1 z0 z1 r0 r1 fr
  obtain ⟨y0, y1, z0, z1, r0, r1, fr⟩ := HA.out.cells
  go_wp2_with fail
  refine (typed_any (sa + sb) _).mono ?_
  rintro e w9 ⟨rfl, c9⟩
  obtain ⟨K, hK⟩ : ∃ K, (typed (sa + sb)).kind = K := ⟨_, rfl⟩
  obtain ⟨Z, hZ⟩ : ∃ Z, (typed (sa + sb)).scale = Z := ⟨_, rfl⟩
  rw [hK, hZ]
  have HA := Lib.hid (HA.out.later c9)
  have CX := Lib.hid (CX.out.trans (c9.mono CX.out.size))
  have HK := Lib.hid hK
  have HZ := Lib.hid hZ
  clear c9 y0 y1 z0 z1 r0 r1 fr hK hZ
  obtain ⟨y0, y1, z0, z1, r0, r1, fr⟩ := HA.out.cells
  go_wp2_with fail
  exact bodyPost_ret (v := .tuple #[.agg #[.int .i64 K, .int .i64 Z], .bool true]) (by simp [results, Tryz.results23, go_sem, r0, r1, fr]) rfl (aty_some CX.out HK.out HZ.out _ _)
set_option maxRecDepth 100000 in
set_option maxHeartbeats 2000000 in
theorem raty_tb (op : UInt8) (ka sa kb sb : Int) (w : World) (h1 : tyB ⟨ka, sa⟩ = true) (h2 : tyB ⟨kb, sb⟩ = true) (hna : (ka == 1 || ka == 2) = true) (hnb : (kb == 1 || kb == 2) = true) (a0 : 0 ≤ sa) (a9 : sa ≤ 9) (b0 : 0 ≤ sb) (b9 : sb ≤ 9) (h43 : (op == 43) = false) (h45 : (op == 45) = false) (h42 : (op == 42) = true) (hs : ¬ sa + sb ≤ 9) : Calls Tryz.prog 23 #[.int .u8 (op.toNat : Int), .agg #[.int .i64 ka, .int .i64 sa], .agg #[.int .i64 kb, .int .i64 sb]] w (AtyS w none) := by
  have H1 := Lib.hid h1
  have H2 := Lib.hid h2
  clear h1 h2
  have HNA := Lib.hid hna
  have HNB := Lib.hid hnb
  clear hna hnb
  have e43 : ((op.toNat : Int) == 43) = false := by rw [show (43 : Int) = ((43 : Nat) : Int) from rfl, op_num op 43 (by decide)]; exact h43
  have e45 : ((op.toNat : Int) == 45) = false := by rw [show (45 : Int) = ((45 : Nat) : Int) from rfl, op_num op 45 (by decide)]; exact h45
  have e42 : ((op.toNat : Int) == 42) = true := by rw [show (42 : Int) = ((42 : Nat) : Int) from rfl, op_num op 42 (by decide)]; exact h42
  clear h43 h45 h42
  have ds : decide (sa + sb ≤ 9) = false := decide_eq_false hs
  obtain ⟨hA0, hB0, hS0⟩ := args3_at w ka sa kb sb
  have HA := Lib.hid hA0
  have CX := Lib.hid hB0
  have HS0 := Lib.hid hS0
  clear hA0 hB0 hS0
  go_enter Tryz.func23, Tryz.ntmps23
  go_wp2_with fail
  refine (rty_any ka sa _ _ H1.out).mono ?_
  rintro e w5 ⟨rfl, c5⟩
  have HA := Lib.hid (HA.out.later c5)
  have CX := Lib.hid (CX.out.trans (c5.mono CX.out.size))
  clear c5
  obtain ⟨y0, y1, z0, z1, r0, r1, fr⟩ := HA.out.cells
  go_wp2_with fail
  refine (rty_any kb sb _ _ H2.out).mono ?_
  rintro e w6 ⟨rfl, c6⟩
  have HA := Lib.hid (HA.out.later c6)
  have CX := Lib.hid (CX.out.trans (c6.mono CX.out.size))
  clear c6 y0 y1 z0 z1 r0 r1 fr
  obtain ⟨y0, y1, z0, z1, r0, r1, fr⟩ := HA.out.cells
  go_wp2_with fail
  refine (rnum_any ka sa _).mono ?_
  rintro e w7 ⟨rfl, c7⟩
  rw [HNA.out]
  have HA := Lib.hid (HA.out.later c7)
  have CX := Lib.hid (CX.out.trans (c7.mono CX.out.size))
  clear c7 y0 y1 z0 z1 r0 r1 fr
  obtain ⟨y0, y1, z0, z1, r0, r1, fr⟩ := HA.out.cells
  go_wp2_with fail
  refine (rnum_any kb sb _).mono ?_
  rintro e w8 ⟨rfl, c8⟩
  rw [HNB.out]
  have HA := Lib.hid (HA.out.later c8)
  have CX := Lib.hid (CX.out.trans (c8.mono CX.out.size))
  clear c8 y0 y1 z0 z1 r0 r1 fr
  obtain ⟨y0, y1, z0, z1, r0, r1, fr⟩ := HA.out.cells
  go_wp2_with fail
  exact bodyPost_ret (v := .tuple #[.agg #[.int .i64 0, .int .i64 0], .bool false]) (by simp [results, Tryz.results23, go_sem, r0, r1, fr]) rfl (aty_none CX.out _ _)
set_option maxRecDepth 100000 in
set_option maxHeartbeats 2000000 in
theorem raty_d (op : UInt8) (ka sa kb sb : Int) (w : World) (h1 : tyB ⟨ka, sa⟩ = true) (h2 : tyB ⟨kb, sb⟩ = true) (hna : (ka == 1 || ka == 2) = true) (hnb : (kb == 1 || kb == 2) = true) (h43 : (op == 43) = false) (h45 : (op == 45) = false) (h42 : (op == 42) = false) (h47 : (op == 47) = true) (hs : (sb == 0) = true) : Calls Tryz.prog 23 #[.int .u8 (op.toNat : Int), .agg #[.int .i64 ka, .int .i64 sa], .agg #[.int .i64 kb, .int .i64 sb]] w (AtyS w (some sa)) := by
  have H1 := Lib.hid h1
  have H2 := Lib.hid h2
  clear h1 h2
  have HNA := Lib.hid hna
  have HNB := Lib.hid hnb
  clear hna hnb
  have e43 : ((op.toNat : Int) == 43) = false := by rw [show (43 : Int) = ((43 : Nat) : Int) from rfl, op_num op 43 (by decide)]; exact h43
  have e45 : ((op.toNat : Int) == 45) = false := by rw [show (45 : Int) = ((45 : Nat) : Int) from rfl, op_num op 45 (by decide)]; exact h45
  have e42 : ((op.toNat : Int) == 42) = false := by rw [show (42 : Int) = ((42 : Nat) : Int) from rfl, op_num op 42 (by decide)]; exact h42
  have e47 : ((op.toNat : Int) == 47) = true := by rw [show (47 : Int) = ((47 : Nat) : Int) from rfl, op_num op 47 (by decide)]; exact h47
  clear h43 h45 h42 h47
  obtain ⟨hA0, hB0, hS0⟩ := args3_at w ka sa kb sb
  have HA := Lib.hid hA0
  have CX := Lib.hid hB0
  have HS0 := Lib.hid hS0
  clear hA0 hB0 hS0
  go_enter Tryz.func23, Tryz.ntmps23
  go_wp2_with fail
  refine (rty_any ka sa _ _ H1.out).mono ?_
  rintro e w5 ⟨rfl, c5⟩
  have HA := Lib.hid (HA.out.later c5)
  have CX := Lib.hid (CX.out.trans (c5.mono CX.out.size))
  clear c5
  obtain ⟨y0, y1, z0, z1, r0, r1, fr⟩ := HA.out.cells
  go_wp2_with fail
  refine (rty_any kb sb _ _ H2.out).mono ?_
  rintro e w6 ⟨rfl, c6⟩
  have HA := Lib.hid (HA.out.later c6)
  have CX := Lib.hid (CX.out.trans (c6.mono CX.out.size))
  clear c6 y0 y1 z0 z1 r0 r1 fr
  obtain ⟨y0, y1, z0, z1, r0, r1, fr⟩ := HA.out.cells
  go_wp2_with fail
  refine (rnum_any ka sa _).mono ?_
  rintro e w7 ⟨rfl, c7⟩
  rw [HNA.out]
  have HA := Lib.hid (HA.out.later c7)
  have CX := Lib.hid (CX.out.trans (c7.mono CX.out.size))
  clear c7 y0 y1 z0 z1 r0 r1 fr
  obtain ⟨y0, y1, z0, z1, r0, r1, fr⟩ := HA.out.cells
  go_wp2_with fail
  refine (rnum_any kb sb _).mono ?_
  rintro e w8 ⟨rfl, c8⟩
  rw [HNB.out]
  have HA := Lib.hid (HA.out.later c8)
  have CX := Lib.hid (CX.out.trans (c8.mono CX.out.size))
  clear c8 y0 y1 z0 z1 r0 r1 fr
  obtain ⟨y0, y1, z0, z1, r0, r1, fr⟩ := HA.out.cells
  go_wp2_with fail
  refine (typed_any sa _).mono ?_
  rintro e w9 ⟨rfl, c9⟩
  obtain ⟨K, hK⟩ : ∃ K, (typed sa).kind = K := ⟨_, rfl⟩
  obtain ⟨Z, hZ⟩ : ∃ Z, (typed sa).scale = Z := ⟨_, rfl⟩
  rw [hK, hZ]
  have HA := Lib.hid (HA.out.later c9)
  have CX := Lib.hid (CX.out.trans (c9.mono CX.out.size))
  have HK := Lib.hid hK
  have HZ := Lib.hid hZ
  clear c9 y0 y1 z0 z1 r0 r1 fr hK hZ
  obtain ⟨y0, y1, z0, z1, r0, r1, fr⟩ := HA.out.cells
  go_wp2_with fail
  exact bodyPost_ret (v := .tuple #[.agg #[.int .i64 K, .int .i64 Z], .bool true]) (by simp [results, Tryz.results23, go_sem, r0, r1, fr]) rfl (aty_some CX.out HK.out HZ.out _ _)
set_option maxRecDepth 100000 in
set_option maxHeartbeats 2000000 in
theorem raty_db (op : UInt8) (ka sa kb sb : Int) (w : World) (h1 : tyB ⟨ka, sa⟩ = true) (h2 : tyB ⟨kb, sb⟩ = true) (hna : (ka == 1 || ka == 2) = true) (hnb : (kb == 1 || kb == 2) = true) (h43 : (op == 43) = false) (h45 : (op == 45) = false) (h42 : (op == 42) = false) (h47 : (op == 47) = true) (hs : (sb == 0) = false) : Calls Tryz.prog 23 #[.int .u8 (op.toNat : Int), .agg #[.int .i64 ka, .int .i64 sa], .agg #[.int .i64 kb, .int .i64 sb]] w (AtyS w none) := by
  have H1 := Lib.hid h1
  have H2 := Lib.hid h2
  clear h1 h2
  have HNA := Lib.hid hna
  have HNB := Lib.hid hnb
  clear hna hnb
  have e43 : ((op.toNat : Int) == 43) = false := by rw [show (43 : Int) = ((43 : Nat) : Int) from rfl, op_num op 43 (by decide)]; exact h43
  have e45 : ((op.toNat : Int) == 45) = false := by rw [show (45 : Int) = ((45 : Nat) : Int) from rfl, op_num op 45 (by decide)]; exact h45
  have e42 : ((op.toNat : Int) == 42) = false := by rw [show (42 : Int) = ((42 : Nat) : Int) from rfl, op_num op 42 (by decide)]; exact h42
  have e47 : ((op.toNat : Int) == 47) = true := by rw [show (47 : Int) = ((47 : Nat) : Int) from rfl, op_num op 47 (by decide)]; exact h47
  clear h43 h45 h42 h47
  obtain ⟨hA0, hB0, hS0⟩ := args3_at w ka sa kb sb
  have HA := Lib.hid hA0
  have CX := Lib.hid hB0
  have HS0 := Lib.hid hS0
  clear hA0 hB0 hS0
  go_enter Tryz.func23, Tryz.ntmps23
  go_wp2_with fail
  refine (rty_any ka sa _ _ H1.out).mono ?_
  rintro e w5 ⟨rfl, c5⟩
  have HA := Lib.hid (HA.out.later c5)
  have CX := Lib.hid (CX.out.trans (c5.mono CX.out.size))
  clear c5
  obtain ⟨y0, y1, z0, z1, r0, r1, fr⟩ := HA.out.cells
  go_wp2_with fail
  refine (rty_any kb sb _ _ H2.out).mono ?_
  rintro e w6 ⟨rfl, c6⟩
  have HA := Lib.hid (HA.out.later c6)
  have CX := Lib.hid (CX.out.trans (c6.mono CX.out.size))
  clear c6 y0 y1 z0 z1 r0 r1 fr
  obtain ⟨y0, y1, z0, z1, r0, r1, fr⟩ := HA.out.cells
  go_wp2_with fail
  refine (rnum_any ka sa _).mono ?_
  rintro e w7 ⟨rfl, c7⟩
  rw [HNA.out]
  have HA := Lib.hid (HA.out.later c7)
  have CX := Lib.hid (CX.out.trans (c7.mono CX.out.size))
  clear c7 y0 y1 z0 z1 r0 r1 fr
  obtain ⟨y0, y1, z0, z1, r0, r1, fr⟩ := HA.out.cells
  go_wp2_with fail
  refine (rnum_any kb sb _).mono ?_
  rintro e w8 ⟨rfl, c8⟩
  rw [HNB.out]
  have HA := Lib.hid (HA.out.later c8)
  have CX := Lib.hid (CX.out.trans (c8.mono CX.out.size))
  clear c8 y0 y1 z0 z1 r0 r1 fr
  obtain ⟨y0, y1, z0, z1, r0, r1, fr⟩ := HA.out.cells
  go_wp2_with fail
  exact bodyPost_ret (v := .tuple #[.agg #[.int .i64 0, .int .i64 0], .bool false]) (by simp [results, Tryz.results23, go_sem, r0, r1, fr]) rfl (aty_none CX.out _ _)
set_option maxRecDepth 100000 in
set_option maxHeartbeats 2000000 in
theorem raty_o (op : UInt8) (ka sa kb sb : Int) (w : World) (h1 : tyB ⟨ka, sa⟩ = true) (h2 : tyB ⟨kb, sb⟩ = true) (hna : (ka == 1 || ka == 2) = true) (hnb : (kb == 1 || kb == 2) = true) (h43 : (op == 43) = false) (h45 : (op == 45) = false) (h42 : (op == 42) = false) (h47 : (op == 47) = false) : Calls Tryz.prog 23 #[.int .u8 (op.toNat : Int), .agg #[.int .i64 ka, .int .i64 sa], .agg #[.int .i64 kb, .int .i64 sb]] w (AtyS w none) := by
  have H1 := Lib.hid h1
  have H2 := Lib.hid h2
  clear h1 h2
  have HNA := Lib.hid hna
  have HNB := Lib.hid hnb
  clear hna hnb
  have e43 : ((op.toNat : Int) == 43) = false := by rw [show (43 : Int) = ((43 : Nat) : Int) from rfl, op_num op 43 (by decide)]; exact h43
  have e45 : ((op.toNat : Int) == 45) = false := by rw [show (45 : Int) = ((45 : Nat) : Int) from rfl, op_num op 45 (by decide)]; exact h45
  have e42 : ((op.toNat : Int) == 42) = false := by rw [show (42 : Int) = ((42 : Nat) : Int) from rfl, op_num op 42 (by decide)]; exact h42
  have e47 : ((op.toNat : Int) == 47) = false := by rw [show (47 : Int) = ((47 : Nat) : Int) from rfl, op_num op 47 (by decide)]; exact h47
  clear h43 h45 h42 h47
  obtain ⟨hA0, hB0, hS0⟩ := args3_at w ka sa kb sb
  have HA := Lib.hid hA0
  have CX := Lib.hid hB0
  have HS0 := Lib.hid hS0
  clear hA0 hB0 hS0
  go_enter Tryz.func23, Tryz.ntmps23
  go_wp2_with fail
  refine (rty_any ka sa _ _ H1.out).mono ?_
  rintro e w5 ⟨rfl, c5⟩
  have HA := Lib.hid (HA.out.later c5)
  have CX := Lib.hid (CX.out.trans (c5.mono CX.out.size))
  clear c5
  obtain ⟨y0, y1, z0, z1, r0, r1, fr⟩ := HA.out.cells
  go_wp2_with fail
  refine (rty_any kb sb _ _ H2.out).mono ?_
  rintro e w6 ⟨rfl, c6⟩
  have HA := Lib.hid (HA.out.later c6)
  have CX := Lib.hid (CX.out.trans (c6.mono CX.out.size))
  clear c6 y0 y1 z0 z1 r0 r1 fr
  obtain ⟨y0, y1, z0, z1, r0, r1, fr⟩ := HA.out.cells
  go_wp2_with fail
  refine (rnum_any ka sa _).mono ?_
  rintro e w7 ⟨rfl, c7⟩
  rw [HNA.out]
  have HA := Lib.hid (HA.out.later c7)
  have CX := Lib.hid (CX.out.trans (c7.mono CX.out.size))
  clear c7 y0 y1 z0 z1 r0 r1 fr
  obtain ⟨y0, y1, z0, z1, r0, r1, fr⟩ := HA.out.cells
  go_wp2_with fail
  refine (rnum_any kb sb _).mono ?_
  rintro e w8 ⟨rfl, c8⟩
  rw [HNB.out]
  have HA := Lib.hid (HA.out.later c8)
  have CX := Lib.hid (CX.out.trans (c8.mono CX.out.size))
  clear c8 y0 y1 z0 z1 r0 r1 fr
  obtain ⟨y0, y1, z0, z1, r0, r1, fr⟩ := HA.out.cells
  go_wp2_with fail
  exact bodyPost_ret (v := .tuple #[.agg #[.int .i64 0, .int .i64 0], .bool false]) (by simp [results, Tryz.results23, go_sem, r0, r1, fr]) rfl (aty_none CX.out _ _)
theorem raty_any (op : UInt8) (ka sa kb sb : Int) (w : World) (o : Option Int) (ho : arithTy op ⟨ka, sa⟩ ⟨kb, sb⟩ = o) : Calls Tryz.prog 23 #[.int .u8 (op.toNat : Int), .agg #[.int .i64 ka, .int .i64 sa], .agg #[.int .i64 kb, .int .i64 sb]] w (AtyS w o) := by
  have no : (numB ⟨ka, sa⟩ && numB ⟨kb, sb⟩) = false → o = none := fun h => by rw [← ho]; unfold arithTy; rw [h]; rfl
  cases h1 : tyB ⟨ka, sa⟩ with
  | false =>
    obtain rfl := no (by unfold numB; rw [h1]; rfl)
    cases h2 : tyB ⟨kb, sb⟩ with
    | false => exact raty_ff op ka sa kb sb w h1 h2
    | true => exact raty_ft op ka sa kb sb w h1 h2
  | true =>
    cases h2 : tyB ⟨kb, sb⟩ with
    | false =>
      obtain rfl := no (by unfold numB; rw [h1, h2]; simp)
      exact raty_tf op ka sa kb sb w h1 h2
    | true =>
      cases hna : (ka == 1 || ka == 2) with
      | false =>
        obtain rfl := no (by unfold numB; rw [h1, show ((⟨ka, sa⟩ : Ty).kind == 1 || (⟨ka, sa⟩ : Ty).kind == 2) = false from hna]; rfl)
        exact raty_na op ka sa kb sb w h1 h2 _ hna rfl
      | true =>
        have na : numB ⟨ka, sa⟩ = true := by unfold numB; rw [h1, show ((⟨ka, sa⟩ : Ty).kind == 1 || (⟨ka, sa⟩ : Ty).kind == 2) = true from hna]; rfl
        cases hnb : (kb == 1 || kb == 2) with
        | false =>
          obtain rfl := no (by rw [na]; unfold numB; rw [h2, show ((⟨kb, sb⟩ : Ty).kind == 1 || (⟨kb, sb⟩ : Ty).kind == 2) = false from hnb]; rfl)
          exact raty_nb op ka sa kb sb w h1 h2 hna hnb
        | true =>
          have nb : numB ⟨kb, sb⟩ = true := by unfold numB; rw [h2, show ((⟨kb, sb⟩ : Ty).kind == 1 || (⟨kb, sb⟩ : Ty).kind == 2) = true from hnb]; rfl
          obtain ⟨a0, a9, _⟩ := num_range na
          obtain ⟨b0, b9, _⟩ := num_range nb
          change 0 ≤ sa at a0
          change sa ≤ 9 at a9
          change 0 ≤ sb at b0
          change sb ≤ 9 at b9
          unfold arithTy at ho
          rw [na, nb] at ho
          simp only [Bool.and_self, if_true] at ho
          cases h43 : (op == 43) with
          | true =>
            rw [h43] at ho
            subst ho
            exact raty_p op ka sa kb sb w h1 h2 hna hnb h43
          | false =>
            cases h45 : (op == 45) with
            | true =>
              rw [h43, h45] at ho
              subst ho
              exact raty_m op ka sa kb sb w h1 h2 hna hnb h43 h45
            | false =>
              rw [h43, h45] at ho
              cases h42 : (op == 42) with
              | true =>
                rw [h42] at ho
                simp only [Bool.or_self, Bool.false_eq_true, if_false, if_true] at ho
                by_cases hs : sa + sb ≤ 9
                · rw [if_pos hs] at ho
                  subst ho
                  exact raty_t op ka sa kb sb w h1 h2 hna hnb a0 a9 b0 b9 h43 h45 h42 hs
                · rw [if_neg hs] at ho
                  subst ho
                  exact raty_tb op ka sa kb sb w h1 h2 hna hnb a0 a9 b0 b9 h43 h45 h42 hs
              | false =>
                rw [h42] at ho
                cases h47 : (op == 47) with
                | true =>
                  rw [h47] at ho
                  simp only [Bool.or_self, Bool.false_eq_true, if_false, if_true] at ho
                  cases hs : (sb == 0) with
                  | true =>
                    rw [hs] at ho
                    subst ho
                    exact raty_d op ka sa kb sb w h1 h2 hna hnb h43 h45 h42 h47 hs
                  | false =>
                    rw [hs] at ho
                    subst ho
                    exact raty_db op ka sa kb sb w h1 h2 hna hnb h43 h45 h42 h47 hs
                | false =>
                  rw [h47] at ho
                  subst ho
                  exact raty_o op ka sa kb sb w h1 h2 hna hnb h43 h45 h42 h47
end Go.Proofs.YtekpdcofjhdiiaaGreatDoor.Val
