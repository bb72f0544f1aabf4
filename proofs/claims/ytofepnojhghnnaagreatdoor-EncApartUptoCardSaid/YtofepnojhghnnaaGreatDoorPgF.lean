/-
  What a step of a program does: steps 0 to 10. No condition beyond what each theorem names.
-/
import Derived.Test.YtofepnojhghnnaaGreatDoorPgE
import Derived.Deep.RegionWith
namespace Go.Proofs.YtofepnojhghnnaaGreatDoor.Pg
open Go.RowKit Go.Maps Go.Proofs.YtofepnojhghnnaaGreatDoor.Op Go.Proofs.YtofepnojhghnnaaGreatDoor.Mod
set_option linter.unusedVariables false
theorem ww (n : Int) : wrap64 (wrap32 n) = wrap32 n := by unfold wrap32 wrap64; omega
theorem and_mask_i64 (x : Int) (j : Nat) (hj : j ≤ 62) : bits .and .i64 x ((2 ^ j - 1 : Nat) : Int) = x % 2 ^ j := by
  unfold bits
  have h2 : (BitVec.ofInt 64 ((2 ^ j - 1 : Nat) : Int)).toNat = 2 ^ j - 1 := by
    rw [BitVec.ofInt_natCast, BitVec.toNat_ofNat]
    have : (2 : Nat) ^ j ≤ 2 ^ 62 := Nat.pow_le_pow_right (by decide) hj
    exact Nat.mod_eq_of_lt (by omega)
  show IntKind.i64.wrap ((BitVec.ofInt 64 x &&& BitVec.ofInt 64 ((2 ^ j - 1 : Nat) : Int)).toNat : Int) = _
  rw [BitVec.toNat_and, h2, Nat.and_two_pow_sub_one_eq_mod, BitVec.toNat_ofInt]
  have hp : (2 : Nat) ^ j ≤ 2 ^ 62 := Nat.pow_le_pow_right (by decide) hj
  have hp0 : 0 < (2 : Nat) ^ j := Nat.pow_pos (by decide)
  have e : (((x % 2 ^ 64).toNat % 2 ^ j : Nat) : Int) = x % 2 ^ j := by
    rw [Int.natCast_emod, Int.toNat_of_nonneg (Int.emod_nonneg _ (by decide)), Int.natCast_pow]
    show x % 2 ^ 64 % 2 ^ j = x % 2 ^ j
    refine Int.emod_emod_of_dvd _ ⟨2 ^ (64 - j), ?_⟩
    rw [← Int.pow_add]
    congr 1
    omega
  have e64 : ((2 ^ 64 : Nat) : Int) = 2 ^ 64 := rfl
  have hc : ((2 ^ j : Nat) : Int) = 2 ^ j := by rw [Int.natCast_pow]; rfl
  have hlt := Int.emod_lt_of_pos x (show (0 : Int) < 2 ^ j by omega)
  have hge := Int.emod_nonneg x (show (2 : Int) ^ j ≠ 0 by omega)
  rw [e64, e, IntKind.wrap_i64]
  omega
theorem and_room (x : Int) : bits .and .i64 x 131071 = x % 131072 := and_mask_i64 x 17 (by decide)

set_option maxRecDepth 100000 in
set_option maxHeartbeats 4000000 in
theorem does_0_0 (kind : Nat) (a b : Int) (op : Nat) (w : World) (B bb : Nat) (x : Px) (s : St) (n : Nat) (hI : Inv s n) (hn : n ≤ 700000) (h : PAt w B bb x s) (hB : B ≤ w.heap.size) (hkd : kind < 256) (hop : op < 256) (hk : kind % 16 = 0) (hp : op % 2 = 0) :
    Calls Tryz.prog 14 #[.pointer (some ⟨bb, 0, none⟩), .agg #[.int .u8 (kind : Int), .int .i64 a, .int .i64 b, .int .u8 (op : Int)]] w fun e w' => e = .returned (.tuple #[]) ∧ Upd w B bb x (doesP s ⟨kind, a, b, op⟩) w' := by
  obtain ⟨J, hJ⟩ : ∃ J, doesP s ⟨kind, a, b, op⟩ = J := ⟨_, rfl⟩
  rw [hJ]
  have HJ := Lib.hid hJ
  clear hJ
  obtain ⟨w0, hw0⟩ : ∃ w0, w.alloc (.cells #[.int .u8 (kind : Int), .int .i64 a, .int .i64 b, .int .u8 (op : Int)] 62) = w0 := ⟨_, rfl⟩
  have B0 : Below w.heap.size w w0 := by rw [← hw0]; exact (Below.refl _ _).alloc (Nat.le_refl _) _
  have z0 : w.heap.size < w0.heap.size := by rw [← hw0]; simp
  have hbox : ∀ (s' : St) (wr : World), Upd w0 B bb x s' wr → wr.cell? ⟨w.heap.size, 0, none⟩ = some (.int .u8 (kind : Int)) ∧ wr.cell? ⟨w.heap.size, 1, none⟩ = some (.int .i64 a) ∧ wr.cell? ⟨w.heap.size, 2, none⟩ = some (.int .i64 b) ∧ wr.cell? ⟨w.heap.size, 3, none⟩ = some (.int .u8 (op : Int)) ∧ w.heap.size < wr.heap.size := fun s' wr u => by
    rw [← hw0] at u
    exact ⟨Upd.box h u (by simp), Upd.box h u (by simp), Upd.box h u (by simp), Upd.box h u (by simp), by have := u.size; simp at this; omega⟩
  have HBOX := Lib.hid hbox
  have HB0 := Lib.hid B0
  have HI0 := Lib.hid hI
  have HU0 := Lib.hid (Upd.same (h.later B0))
  have HW := Lib.hid hw0
  obtain ⟨y0, y1, y2, y3, y4⟩ := hbox _ _ HU0.out
  have HH := Lib.hid h
  clear hbox h hI B0 hw0
  have hki : (kind : Int) % 16 = 0 := by omega
  have hpi : (op : Int) % 2 = 0 := by omega
  go_enter Tryz.func14, Tryz.ntmps14
  have hw0 := HW.out
  go_upto_region 1 with fail
  clear hw0
  go_wp2_with fail
  obtain ⟨x0, hA0, hf0, hk0⟩ := HU0.out
  have hBB0 : B ≤ w0.heap.size := Nat.le_trans hB (by have := hk0.size; omega)
  have hin0 := HI0.out
  have hsz0 := hin0.size
  have hc0 : (s : St).code.length < 1000000 := by omega
  have hs0 : (s : St).stack.length < 1000000 := by omega
  have hbn0 : n ≤ 700000 := hn
  have HC0 := Lib.hid (put_any (66) (a) (0) w0 B bb x0 (s) hA0 hBB0 hc0)
  have HF0 := Lib.hid hf0
  have HK0 := Lib.hid hk0
  clear hA0 hf0 hk0 hBB0 hin0 hsz0 hc0 hs0 hbn0
  refine HC0.out.mono ?_
  rintro e1 w1 ⟨rfl, u1⟩
  have HU1 := Lib.hid (Upd.trans HF0.out HK0.out u1)
  have HI1 := Lib.hid (show Inv (putP (s) (66) (a) (0) : St) (n + 1) from HI0.out.put _ _ _)
  clear u1 HC0 HF0 HK0 y0 y1 y2 y3 y4
  obtain ⟨y0, y1, y2, y3, y4⟩ := HBOX.out _ _ HU1.out
  go_wp2_with fail
  obtain ⟨x1, hA1, hf1, hk1⟩ := HU1.out
  have hBB1 : B ≤ w1.heap.size := by have := hk1.size; omega
  have hin1 := HI1.out
  have hsz1 := hin1.size
  have hc1 : (putP (s) (66) (a) (0) : St).code.length < 1000000 := by omega
  have hs1 : (putP (s) (66) (a) (0) : St).stack.length < 1000000 := by omega
  have hbn1 : n ≤ 700000 := hn
  have HC1 := Lib.hid (push_any 126 w1 B bb x1 (putP (s) (66) (a) (0)) hA1 hBB1 hs1)
  have HF1 := Lib.hid hf1
  have HK1 := Lib.hid hk1
  clear hA1 hf1 hk1 hBB1 hin1 hsz1 hc1 hs1 hbn1
  refine HC1.out.mono ?_
  rintro e2 w2 ⟨rfl, u2⟩
  have HU2 := Lib.hid (Upd.trans HF1.out HK1.out u2)
  have HI2 := Lib.hid (show Inv (pushP (putP (s) (66) (a) (0)) 126 : St) (n + 1 + 3) from HI1.out.push (by decide))
  clear u2 HC1 HF1 HK1 y0 y1 y2 y3 y4
  obtain ⟨y0, y1, y2, y3, y4⟩ := HBOX.out _ _ HU2.out
  go_wp2_with fail
  go_end0
  refine ⟨rfl, ?_⟩
  have hJ : doesP s ⟨kind, a, b, op⟩ = pushP (putP (s) (66) (a) (0)) 126 := by
    simp [doesP, hk, hp]
  rw [← HJ.out, hJ]
  exact Upd.after HB0.out HU2.out
set_option maxRecDepth 100000 in
set_option maxHeartbeats 4000000 in
theorem does_0_1 (kind : Nat) (a b : Int) (op : Nat) (w : World) (B bb : Nat) (x : Px) (s : St) (n : Nat) (hI : Inv s n) (hn : n ≤ 700000) (h : PAt w B bb x s) (hB : B ≤ w.heap.size) (hkd : kind < 256) (hop : op < 256) (hk : kind % 16 = 0) (hp : op % 2 = 1) :
    Calls Tryz.prog 14 #[.pointer (some ⟨bb, 0, none⟩), .agg #[.int .u8 (kind : Int), .int .i64 a, .int .i64 b, .int .u8 (op : Int)]] w fun e w' => e = .returned (.tuple #[]) ∧ Upd w B bb x (doesP s ⟨kind, a, b, op⟩) w' := by
  obtain ⟨J, hJ⟩ : ∃ J, doesP s ⟨kind, a, b, op⟩ = J := ⟨_, rfl⟩
  rw [hJ]
  have HJ := Lib.hid hJ
  clear hJ
  obtain ⟨w0, hw0⟩ : ∃ w0, w.alloc (.cells #[.int .u8 (kind : Int), .int .i64 a, .int .i64 b, .int .u8 (op : Int)] 62) = w0 := ⟨_, rfl⟩
  have B0 : Below w.heap.size w w0 := by rw [← hw0]; exact (Below.refl _ _).alloc (Nat.le_refl _) _
  have z0 : w.heap.size < w0.heap.size := by rw [← hw0]; simp
  have hbox : ∀ (s' : St) (wr : World), Upd w0 B bb x s' wr → wr.cell? ⟨w.heap.size, 0, none⟩ = some (.int .u8 (kind : Int)) ∧ wr.cell? ⟨w.heap.size, 1, none⟩ = some (.int .i64 a) ∧ wr.cell? ⟨w.heap.size, 2, none⟩ = some (.int .i64 b) ∧ wr.cell? ⟨w.heap.size, 3, none⟩ = some (.int .u8 (op : Int)) ∧ w.heap.size < wr.heap.size := fun s' wr u => by
    rw [← hw0] at u
    exact ⟨Upd.box h u (by simp), Upd.box h u (by simp), Upd.box h u (by simp), Upd.box h u (by simp), by have := u.size; simp at this; omega⟩
  have HBOX := Lib.hid hbox
  have HB0 := Lib.hid B0
  have HI0 := Lib.hid hI
  have HU0 := Lib.hid (Upd.same (h.later B0))
  have HW := Lib.hid hw0
  obtain ⟨y0, y1, y2, y3, y4⟩ := hbox _ _ HU0.out
  have HH := Lib.hid h
  clear hbox h hI B0 hw0
  have hki : (kind : Int) % 16 = 0 := by omega
  have hpi : (op : Int) % 2 = 1 := by omega
  have hww := ww a
  go_enter Tryz.func14, Tryz.ntmps14
  have hw0 := HW.out
  go_upto_region 1 with fail
  clear hw0
  go_wp2_with fail
  obtain ⟨x0, hA0, hf0, hk0⟩ := HU0.out
  have hBB0 : B ≤ w0.heap.size := Nat.le_trans hB (by have := hk0.size; omega)
  have hin0 := HI0.out
  have hsz0 := hin0.size
  have hc0 : (s : St).code.length < 1000000 := by omega
  have hs0 : (s : St).stack.length < 1000000 := by omega
  have hbn0 : n ≤ 700000 := hn
  have HC0 := Lib.hid (put_any (65) (wrap32 a) (0) w0 B bb x0 (s) hA0 hBB0 hc0)
  have HF0 := Lib.hid hf0
  have HK0 := Lib.hid hk0
  clear hA0 hf0 hk0 hBB0 hin0 hsz0 hc0 hs0 hbn0
  refine HC0.out.mono ?_
  rintro e1 w1 ⟨rfl, u1⟩
  have HU1 := Lib.hid (Upd.trans HF0.out HK0.out u1)
  have HI1 := Lib.hid (show Inv (putP (s) (65) (wrap32 a) (0) : St) (n + 1) from HI0.out.put _ _ _)
  clear u1 HC0 HF0 HK0 y0 y1 y2 y3 y4
  obtain ⟨y0, y1, y2, y3, y4⟩ := HBOX.out _ _ HU1.out
  go_wp2_with fail
  obtain ⟨x1, hA1, hf1, hk1⟩ := HU1.out
  have hBB1 : B ≤ w1.heap.size := by have := hk1.size; omega
  have hin1 := HI1.out
  have hsz1 := hin1.size
  have hc1 : (putP (s) (65) (wrap32 a) (0) : St).code.length < 1000000 := by omega
  have hs1 : (putP (s) (65) (wrap32 a) (0) : St).stack.length < 1000000 := by omega
  have hbn1 : n ≤ 700000 := hn
  have HC1 := Lib.hid (push_any 127 w1 B bb x1 (putP (s) (65) (wrap32 a) (0)) hA1 hBB1 hs1)
  have HF1 := Lib.hid hf1
  have HK1 := Lib.hid hk1
  clear hA1 hf1 hk1 hBB1 hin1 hsz1 hc1 hs1 hbn1
  refine HC1.out.mono ?_
  rintro e2 w2 ⟨rfl, u2⟩
  have HU2 := Lib.hid (Upd.trans HF1.out HK1.out u2)
  have HI2 := Lib.hid (show Inv (pushP (putP (s) (65) (wrap32 a) (0)) 127 : St) (n + 1 + 3) from HI1.out.push (by decide))
  clear u2 HC1 HF1 HK1 y0 y1 y2 y3 y4
  obtain ⟨y0, y1, y2, y3, y4⟩ := HBOX.out _ _ HU2.out
  go_wp2_with fail
  go_end0
  refine ⟨rfl, ?_⟩
  have hJ : doesP s ⟨kind, a, b, op⟩ = pushP (putP (s) (65) (wrap32 a) (0)) 127 := by
    simp [doesP, hk, hp]
  rw [← HJ.out, hJ]
  exact Upd.after HB0.out HU2.out
set_option maxRecDepth 100000 in
set_option maxHeartbeats 4000000 in
theorem does_1_0 (kind : Nat) (a b : Int) (op : Nat) (w : World) (B bb : Nat) (x : Px) (s : St) (n : Nat) (hI : Inv s n) (hn : n ≤ 700000) (h : PAt w B bb x s) (hB : B ≤ w.heap.size) (hkd : kind < 256) (hop : op < 256) (hk : kind % 16 = 1) (hp : op % 2 = 0) :
    Calls Tryz.prog 14 #[.pointer (some ⟨bb, 0, none⟩), .agg #[.int .u8 (kind : Int), .int .i64 a, .int .i64 b, .int .u8 (op : Int)]] w fun e w' => e = .returned (.tuple #[]) ∧ Upd w B bb x (doesP s ⟨kind, a, b, op⟩) w' := by
  obtain ⟨J, hJ⟩ : ∃ J, doesP s ⟨kind, a, b, op⟩ = J := ⟨_, rfl⟩
  rw [hJ]
  have HJ := Lib.hid hJ
  clear hJ
  obtain ⟨w0, hw0⟩ : ∃ w0, w.alloc (.cells #[.int .u8 (kind : Int), .int .i64 a, .int .i64 b, .int .u8 (op : Int)] 62) = w0 := ⟨_, rfl⟩
  have B0 : Below w.heap.size w w0 := by rw [← hw0]; exact (Below.refl _ _).alloc (Nat.le_refl _) _
  have z0 : w.heap.size < w0.heap.size := by rw [← hw0]; simp
  have hbox : ∀ (s' : St) (wr : World), Upd w0 B bb x s' wr → wr.cell? ⟨w.heap.size, 0, none⟩ = some (.int .u8 (kind : Int)) ∧ wr.cell? ⟨w.heap.size, 1, none⟩ = some (.int .i64 a) ∧ wr.cell? ⟨w.heap.size, 2, none⟩ = some (.int .i64 b) ∧ wr.cell? ⟨w.heap.size, 3, none⟩ = some (.int .u8 (op : Int)) ∧ w.heap.size < wr.heap.size := fun s' wr u => by
    rw [← hw0] at u
    exact ⟨Upd.box h u (by simp), Upd.box h u (by simp), Upd.box h u (by simp), Upd.box h u (by simp), by have := u.size; simp at this; omega⟩
  have HBOX := Lib.hid hbox
  have HB0 := Lib.hid B0
  have HI0 := Lib.hid hI
  have HU0 := Lib.hid (Upd.same (h.later B0))
  have HW := Lib.hid hw0
  obtain ⟨y0, y1, y2, y3, y4⟩ := hbox _ _ HU0.out
  have HH := Lib.hid h
  clear hbox h hI B0 hw0
  have hki : (kind : Int) % 16 = 1 := by omega
  have hpi : (op : Int) % 2 = 0 := by omega
  go_enter Tryz.func14, Tryz.ntmps14
  have hw0 := HW.out
  go_upto_region 1 with fail
  clear hw0
  go_wp2_with fail
  obtain ⟨x0, hA0, hf0, hk0⟩ := HU0.out
  have hBB0 : B ≤ w0.heap.size := Nat.le_trans hB (by have := hk0.size; omega)
  have hin0 := HI0.out
  have hsz0 := hin0.size
  have hc0 : (s : St).code.length < 1000000 := by omega
  have hs0 : (s : St).stack.length < 1000000 := by omega
  have hbn0 : n ≤ 700000 := hn
  have HC0 := Lib.hid (put_any (66) (a) (0) w0 B bb x0 (s) hA0 hBB0 hc0)
  have HF0 := Lib.hid hf0
  have HK0 := Lib.hid hk0
  clear hA0 hf0 hk0 hBB0 hin0 hsz0 hc0 hs0 hbn0
  refine HC0.out.mono ?_
  rintro e1 w1 ⟨rfl, u1⟩
  have HU1 := Lib.hid (Upd.trans HF0.out HK0.out u1)
  have HI1 := Lib.hid (show Inv (putP (s) (66) (a) (0) : St) (n + 1) from HI0.out.put _ _ _)
  clear u1 HC0 HF0 HK0 y0 y1 y2 y3 y4
  obtain ⟨y0, y1, y2, y3, y4⟩ := HBOX.out _ _ HU1.out
  go_wp2_with fail
  obtain ⟨x1, hA1, hf1, hk1⟩ := HU1.out
  have hBB1 : B ≤ w1.heap.size := by have := hk1.size; omega
  have hin1 := HI1.out
  have hsz1 := hin1.size
  have hc1 : (putP (s) (66) (a) (0) : St).code.length < 1000000 := by omega
  have hs1 : (putP (s) (66) (a) (0) : St).stack.length < 1000000 := by omega
  have hbn1 : n ≤ 700000 := hn
  have HC1 := Lib.hid (push_any 126 w1 B bb x1 (putP (s) (66) (a) (0)) hA1 hBB1 hs1)
  have HF1 := Lib.hid hf1
  have HK1 := Lib.hid hk1
  clear hA1 hf1 hk1 hBB1 hin1 hsz1 hc1 hs1 hbn1
  refine HC1.out.mono ?_
  rintro e2 w2 ⟨rfl, u2⟩
  have HU2 := Lib.hid (Upd.trans HF1.out HK1.out u2)
  have HI2 := Lib.hid (show Inv (pushP (putP (s) (66) (a) (0)) 126 : St) (n + 1 + 3) from HI1.out.push (by decide))
  clear u2 HC1 HF1 HK1 y0 y1 y2 y3 y4
  obtain ⟨y0, y1, y2, y3, y4⟩ := HBOX.out _ _ HU2.out
  go_wp2_with fail
  go_end0
  refine ⟨rfl, ?_⟩
  have hJ : doesP s ⟨kind, a, b, op⟩ = pushP (putP (s) (66) (a) (0)) 126 := by
    simp [doesP, hk, hp]
  rw [← HJ.out, hJ]
  exact Upd.after HB0.out HU2.out
set_option maxRecDepth 100000 in
set_option maxHeartbeats 4000000 in
theorem does_1_1 (kind : Nat) (a b : Int) (op : Nat) (w : World) (B bb : Nat) (x : Px) (s : St) (n : Nat) (hI : Inv s n) (hn : n ≤ 700000) (h : PAt w B bb x s) (hB : B ≤ w.heap.size) (hkd : kind < 256) (hop : op < 256) (hk : kind % 16 = 1) (hp : op % 2 = 1) :
    Calls Tryz.prog 14 #[.pointer (some ⟨bb, 0, none⟩), .agg #[.int .u8 (kind : Int), .int .i64 a, .int .i64 b, .int .u8 (op : Int)]] w fun e w' => e = .returned (.tuple #[]) ∧ Upd w B bb x (doesP s ⟨kind, a, b, op⟩) w' := by
  obtain ⟨J, hJ⟩ : ∃ J, doesP s ⟨kind, a, b, op⟩ = J := ⟨_, rfl⟩
  rw [hJ]
  have HJ := Lib.hid hJ
  clear hJ
  obtain ⟨w0, hw0⟩ : ∃ w0, w.alloc (.cells #[.int .u8 (kind : Int), .int .i64 a, .int .i64 b, .int .u8 (op : Int)] 62) = w0 := ⟨_, rfl⟩
  have B0 : Below w.heap.size w w0 := by rw [← hw0]; exact (Below.refl _ _).alloc (Nat.le_refl _) _
  have z0 : w.heap.size < w0.heap.size := by rw [← hw0]; simp
  have hbox : ∀ (s' : St) (wr : World), Upd w0 B bb x s' wr → wr.cell? ⟨w.heap.size, 0, none⟩ = some (.int .u8 (kind : Int)) ∧ wr.cell? ⟨w.heap.size, 1, none⟩ = some (.int .i64 a) ∧ wr.cell? ⟨w.heap.size, 2, none⟩ = some (.int .i64 b) ∧ wr.cell? ⟨w.heap.size, 3, none⟩ = some (.int .u8 (op : Int)) ∧ w.heap.size < wr.heap.size := fun s' wr u => by
    rw [← hw0] at u
    exact ⟨Upd.box h u (by simp), Upd.box h u (by simp), Upd.box h u (by simp), Upd.box h u (by simp), by have := u.size; simp at this; omega⟩
  have HBOX := Lib.hid hbox
  have HB0 := Lib.hid B0
  have HI0 := Lib.hid hI
  have HU0 := Lib.hid (Upd.same (h.later B0))
  have HW := Lib.hid hw0
  obtain ⟨y0, y1, y2, y3, y4⟩ := hbox _ _ HU0.out
  have HH := Lib.hid h
  clear hbox h hI B0 hw0
  have hki : (kind : Int) % 16 = 1 := by omega
  have hpi : (op : Int) % 2 = 1 := by omega
  have hww := ww a
  go_enter Tryz.func14, Tryz.ntmps14
  have hw0 := HW.out
  go_upto_region 1 with fail
  clear hw0
  go_wp2_with fail
  obtain ⟨x0, hA0, hf0, hk0⟩ := HU0.out
  have hBB0 : B ≤ w0.heap.size := Nat.le_trans hB (by have := hk0.size; omega)
  have hin0 := HI0.out
  have hsz0 := hin0.size
  have hc0 : (s : St).code.length < 1000000 := by omega
  have hs0 : (s : St).stack.length < 1000000 := by omega
  have hbn0 : n ≤ 700000 := hn
  have HC0 := Lib.hid (put_any (65) (wrap32 a) (0) w0 B bb x0 (s) hA0 hBB0 hc0)
  have HF0 := Lib.hid hf0
  have HK0 := Lib.hid hk0
  clear hA0 hf0 hk0 hBB0 hin0 hsz0 hc0 hs0 hbn0
  refine HC0.out.mono ?_
  rintro e1 w1 ⟨rfl, u1⟩
  have HU1 := Lib.hid (Upd.trans HF0.out HK0.out u1)
  have HI1 := Lib.hid (show Inv (putP (s) (65) (wrap32 a) (0) : St) (n + 1) from HI0.out.put _ _ _)
  clear u1 HC0 HF0 HK0 y0 y1 y2 y3 y4
  obtain ⟨y0, y1, y2, y3, y4⟩ := HBOX.out _ _ HU1.out
  go_wp2_with fail
  obtain ⟨x1, hA1, hf1, hk1⟩ := HU1.out
  have hBB1 : B ≤ w1.heap.size := by have := hk1.size; omega
  have hin1 := HI1.out
  have hsz1 := hin1.size
  have hc1 : (putP (s) (65) (wrap32 a) (0) : St).code.length < 1000000 := by omega
  have hs1 : (putP (s) (65) (wrap32 a) (0) : St).stack.length < 1000000 := by omega
  have hbn1 : n ≤ 700000 := hn
  have HC1 := Lib.hid (push_any 127 w1 B bb x1 (putP (s) (65) (wrap32 a) (0)) hA1 hBB1 hs1)
  have HF1 := Lib.hid hf1
  have HK1 := Lib.hid hk1
  clear hA1 hf1 hk1 hBB1 hin1 hsz1 hc1 hs1 hbn1
  refine HC1.out.mono ?_
  rintro e2 w2 ⟨rfl, u2⟩
  have HU2 := Lib.hid (Upd.trans HF1.out HK1.out u2)
  have HI2 := Lib.hid (show Inv (pushP (putP (s) (65) (wrap32 a) (0)) 127 : St) (n + 1 + 3) from HI1.out.push (by decide))
  clear u2 HC1 HF1 HK1 y0 y1 y2 y3 y4
  obtain ⟨y0, y1, y2, y3, y4⟩ := HBOX.out _ _ HU2.out
  go_wp2_with fail
  go_end0
  refine ⟨rfl, ?_⟩
  have hJ : doesP s ⟨kind, a, b, op⟩ = pushP (putP (s) (65) (wrap32 a) (0)) 127 := by
    simp [doesP, hk, hp]
  rw [← HJ.out, hJ]
  exact Upd.after HB0.out HU2.out
set_option maxRecDepth 100000 in
set_option maxHeartbeats 4000000 in
theorem does_2_0 (kind : Nat) (a b : Int) (op : Nat) (w : World) (B bb : Nat) (x : Px) (s : St) (n : Nat) (hI : Inv s n) (hn : n ≤ 700000) (h : PAt w B bb x s) (hB : B ≤ w.heap.size) (hkd : kind < 256) (hop : op < 256) (hk : kind % 16 = 2) (hp : op % 2 = 0) :
    Calls Tryz.prog 14 #[.pointer (some ⟨bb, 0, none⟩), .agg #[.int .u8 (kind : Int), .int .i64 a, .int .i64 b, .int .u8 (op : Int)]] w fun e w' => e = .returned (.tuple #[]) ∧ Upd w B bb x (doesP s ⟨kind, a, b, op⟩) w' := by
  obtain ⟨J, hJ⟩ : ∃ J, doesP s ⟨kind, a, b, op⟩ = J := ⟨_, rfl⟩
  rw [hJ]
  have HJ := Lib.hid hJ
  clear hJ
  obtain ⟨w0, hw0⟩ : ∃ w0, w.alloc (.cells #[.int .u8 (kind : Int), .int .i64 a, .int .i64 b, .int .u8 (op : Int)] 62) = w0 := ⟨_, rfl⟩
  have B0 : Below w.heap.size w w0 := by rw [← hw0]; exact (Below.refl _ _).alloc (Nat.le_refl _) _
  have z0 : w.heap.size < w0.heap.size := by rw [← hw0]; simp
  have hbox : ∀ (s' : St) (wr : World), Upd w0 B bb x s' wr → wr.cell? ⟨w.heap.size, 0, none⟩ = some (.int .u8 (kind : Int)) ∧ wr.cell? ⟨w.heap.size, 1, none⟩ = some (.int .i64 a) ∧ wr.cell? ⟨w.heap.size, 2, none⟩ = some (.int .i64 b) ∧ wr.cell? ⟨w.heap.size, 3, none⟩ = some (.int .u8 (op : Int)) ∧ w.heap.size < wr.heap.size := fun s' wr u => by
    rw [← hw0] at u
    exact ⟨Upd.box h u (by simp), Upd.box h u (by simp), Upd.box h u (by simp), Upd.box h u (by simp), by have := u.size; simp at this; omega⟩
  have HBOX := Lib.hid hbox
  have HB0 := Lib.hid B0
  have HI0 := Lib.hid hI
  have HU0 := Lib.hid (Upd.same (h.later B0))
  have HW := Lib.hid hw0
  obtain ⟨y0, y1, y2, y3, y4⟩ := hbox _ _ HU0.out
  have HH := Lib.hid h
  clear hbox h hI B0 hw0
  have hki : (kind : Int) % 16 = 2 := by omega
  have hpi : (op : Int) % 2 = 0 := by omega
  go_enter Tryz.func14, Tryz.ntmps14
  have hw0 := HW.out
  go_upto_region 1 with fail
  clear hw0
  go_wp2_with fail
  have HP1 := Lib.hid (has_want HI0.out 126)
  obtain ⟨x0, hA0, hf0, hk0⟩ := HU0.out
  have hBB0 : B ≤ w0.heap.size := Nat.le_trans hB (by have := hk0.size; omega)
  have hin0 := HI0.out
  have hsz0 := hin0.size
  have hc0 : (s : St).code.length < 1000000 := by omega
  have hs0 : (s : St).stack.length < 1000000 := by omega
  have hbn0 : n ≤ 700000 := hn
  have HC0 := Lib.hid (want_any 126 w0 B bb x0 _ _ hin0 (by omega) hA0 hBB0 (by decide))
  have HF0 := Lib.hid hf0
  have HK0 := Lib.hid hk0
  clear hA0 hf0 hk0 hBB0 hin0 hsz0 hc0 hs0 hbn0
  refine HC0.out.mono ?_
  rintro e1 w1 ⟨rfl, u1⟩
  have HU1 := Lib.hid (Upd.trans HF0.out HK0.out u1)
  have HI1 := Lib.hid (show Inv (wantP (s) 126 : St) (n + 4) from HI0.out.want (by decide))
  clear u1 HC0 HF0 HK0 y0 y1 y2 y3 y4
  obtain ⟨y0, y1, y2, y3, y4⟩ := HBOX.out _ _ HU1.out
  go_wp2_with fail
  obtain ⟨x1, hA1, hf1, hk1⟩ := HU1.out
  have hBB1 : B ≤ w1.heap.size := by have := hk1.size; omega
  have hin1 := HI1.out
  have hsz1 := hin1.size
  have hc1 : (wantP (s) 126 : St).code.length < 1000000 := by omega
  have hs1 : (wantP (s) 126 : St).stack.length < 1000000 := by omega
  have hbn1 : n ≤ 700000 := hn
  have HC1 := Lib.hid (put_any (32) (0) (0) w1 B bb x1 (wantP (s) 126) hA1 hBB1 hc1)
  have HF1 := Lib.hid hf1
  have HK1 := Lib.hid hk1
  clear hA1 hf1 hk1 hBB1 hin1 hsz1 hc1 hs1 hbn1
  refine HC1.out.mono ?_
  rintro e2 w2 ⟨rfl, u2⟩
  have HU2 := Lib.hid (Upd.trans HF1.out HK1.out u2)
  have HI2 := Lib.hid (show Inv (putP (wantP (s) 126) (32) (0) (0) : St) (n + 4 + 1) from HI1.out.put _ _ _)
  clear u2 HC1 HF1 HK1 y0 y1 y2 y3 y4
  obtain ⟨y0, y1, y2, y3, y4⟩ := HBOX.out _ _ HU2.out
  go_wp2_with fail
  obtain ⟨x2, hA2, hf2, hk2⟩ := HU2.out
  have hBB2 : B ≤ w2.heap.size := by have := hk2.size; omega
  have hin2 := HI2.out
  have hsz2 := hin2.size
  have hc2 : (putP (wantP (s) 126) (32) (0) (0) : St).code.length < 1000000 := by omega
  have hs2 : (putP (wantP (s) 126) (32) (0) (0) : St).stack.length < 1000000 := by omega
  have hbn2 : n ≤ 700000 := hn
  have HC2 := Lib.hid (put_any (124 + (op : Int) / 2 % 15) (0) (0) w2 B bb x2 (putP (wantP (s) 126) (32) (0) (0)) hA2 hBB2 hc2)
  have HF2 := Lib.hid hf2
  have HK2 := Lib.hid hk2
  clear hA2 hf2 hk2 hBB2 hin2 hsz2 hc2 hs2 hbn2
  refine HC2.out.mono ?_
  rintro e3 w3 ⟨rfl, u3⟩
  have HU3 := Lib.hid (Upd.trans HF2.out HK2.out u3)
  have HI3 := Lib.hid (show Inv (putP (putP (wantP (s) 126) (32) (0) (0)) (124 + (op : Int) / 2 % 15) (0) (0) : St) (n + 4 + 1 + 1) from HI2.out.put _ _ _)
  clear u3 HC2 HF2 HK2 y0 y1 y2 y3 y4
  obtain ⟨y0, y1, y2, y3, y4⟩ := HBOX.out _ _ HU3.out
  go_wp2_with fail
  go_end0
  refine ⟨rfl, ?_⟩
  have hJ : doesP s ⟨kind, a, b, op⟩ = putP (putP (wantP (s) 126) (32) (0) (0)) (124 + (op : Int) / 2 % 15) (0) (0) := by
    simp [doesP, hk, hp]
  rw [← HJ.out, hJ]
  exact Upd.after HB0.out HU3.out
set_option maxRecDepth 100000 in
set_option maxHeartbeats 4000000 in
theorem does_2_1 (kind : Nat) (a b : Int) (op : Nat) (w : World) (B bb : Nat) (x : Px) (s : St) (n : Nat) (hI : Inv s n) (hn : n ≤ 700000) (h : PAt w B bb x s) (hB : B ≤ w.heap.size) (hkd : kind < 256) (hop : op < 256) (hk : kind % 16 = 2) (hp : op % 2 = 1) :
    Calls Tryz.prog 14 #[.pointer (some ⟨bb, 0, none⟩), .agg #[.int .u8 (kind : Int), .int .i64 a, .int .i64 b, .int .u8 (op : Int)]] w fun e w' => e = .returned (.tuple #[]) ∧ Upd w B bb x (doesP s ⟨kind, a, b, op⟩) w' := by
  obtain ⟨J, hJ⟩ : ∃ J, doesP s ⟨kind, a, b, op⟩ = J := ⟨_, rfl⟩
  rw [hJ]
  have HJ := Lib.hid hJ
  clear hJ
  obtain ⟨w0, hw0⟩ : ∃ w0, w.alloc (.cells #[.int .u8 (kind : Int), .int .i64 a, .int .i64 b, .int .u8 (op : Int)] 62) = w0 := ⟨_, rfl⟩
  have B0 : Below w.heap.size w w0 := by rw [← hw0]; exact (Below.refl _ _).alloc (Nat.le_refl _) _
  have z0 : w.heap.size < w0.heap.size := by rw [← hw0]; simp
  have hbox : ∀ (s' : St) (wr : World), Upd w0 B bb x s' wr → wr.cell? ⟨w.heap.size, 0, none⟩ = some (.int .u8 (kind : Int)) ∧ wr.cell? ⟨w.heap.size, 1, none⟩ = some (.int .i64 a) ∧ wr.cell? ⟨w.heap.size, 2, none⟩ = some (.int .i64 b) ∧ wr.cell? ⟨w.heap.size, 3, none⟩ = some (.int .u8 (op : Int)) ∧ w.heap.size < wr.heap.size := fun s' wr u => by
    rw [← hw0] at u
    exact ⟨Upd.box h u (by simp), Upd.box h u (by simp), Upd.box h u (by simp), Upd.box h u (by simp), by have := u.size; simp at this; omega⟩
  have HBOX := Lib.hid hbox
  have HB0 := Lib.hid B0
  have HI0 := Lib.hid hI
  have HU0 := Lib.hid (Upd.same (h.later B0))
  have HW := Lib.hid hw0
  obtain ⟨y0, y1, y2, y3, y4⟩ := hbox _ _ HU0.out
  have HH := Lib.hid h
  clear hbox h hI B0 hw0
  have hki : (kind : Int) % 16 = 2 := by omega
  have hpi : (op : Int) % 2 = 1 := by omega
  go_enter Tryz.func14, Tryz.ntmps14
  have hw0 := HW.out
  go_upto_region 1 with fail
  clear hw0
  go_wp2_with fail
  have HP1 := Lib.hid (has_want HI0.out 127)
  obtain ⟨x0, hA0, hf0, hk0⟩ := HU0.out
  have hBB0 : B ≤ w0.heap.size := Nat.le_trans hB (by have := hk0.size; omega)
  have hin0 := HI0.out
  have hsz0 := hin0.size
  have hc0 : (s : St).code.length < 1000000 := by omega
  have hs0 : (s : St).stack.length < 1000000 := by omega
  have hbn0 : n ≤ 700000 := hn
  have HC0 := Lib.hid (want_any 127 w0 B bb x0 _ _ hin0 (by omega) hA0 hBB0 (by decide))
  have HF0 := Lib.hid hf0
  have HK0 := Lib.hid hk0
  clear hA0 hf0 hk0 hBB0 hin0 hsz0 hc0 hs0 hbn0
  refine HC0.out.mono ?_
  rintro e1 w1 ⟨rfl, u1⟩
  have HU1 := Lib.hid (Upd.trans HF0.out HK0.out u1)
  have HI1 := Lib.hid (show Inv (wantP (s) 127 : St) (n + 4) from HI0.out.want (by decide))
  clear u1 HC0 HF0 HK0 y0 y1 y2 y3 y4
  obtain ⟨y0, y1, y2, y3, y4⟩ := HBOX.out _ _ HU1.out
  go_wp2_with fail
  obtain ⟨x1, hA1, hf1, hk1⟩ := HU1.out
  have hBB1 : B ≤ w1.heap.size := by have := hk1.size; omega
  have hin1 := HI1.out
  have hsz1 := hin1.size
  have hc1 : (wantP (s) 127 : St).code.length < 1000000 := by omega
  have hs1 : (wantP (s) 127 : St).stack.length < 1000000 := by omega
  have hbn1 : n ≤ 700000 := hn
  have HC1 := Lib.hid (put_any (32) (1) (0) w1 B bb x1 (wantP (s) 127) hA1 hBB1 hc1)
  have HF1 := Lib.hid hf1
  have HK1 := Lib.hid hk1
  clear hA1 hf1 hk1 hBB1 hin1 hsz1 hc1 hs1 hbn1
  refine HC1.out.mono ?_
  rintro e2 w2 ⟨rfl, u2⟩
  have HU2 := Lib.hid (Upd.trans HF1.out HK1.out u2)
  have HI2 := Lib.hid (show Inv (putP (wantP (s) 127) (32) (1) (0) : St) (n + 4 + 1) from HI1.out.put _ _ _)
  clear u2 HC1 HF1 HK1 y0 y1 y2 y3 y4
  obtain ⟨y0, y1, y2, y3, y4⟩ := HBOX.out _ _ HU2.out
  go_wp2_with fail
  obtain ⟨x2, hA2, hf2, hk2⟩ := HU2.out
  have hBB2 : B ≤ w2.heap.size := by have := hk2.size; omega
  have hin2 := HI2.out
  have hsz2 := hin2.size
  have hc2 : (putP (wantP (s) 127) (32) (1) (0) : St).code.length < 1000000 := by omega
  have hs2 : (putP (wantP (s) 127) (32) (1) (0) : St).stack.length < 1000000 := by omega
  have hbn2 : n ≤ 700000 := hn
  have HC2 := Lib.hid (put_any (106 + (op : Int) / 2 % 15) (0) (0) w2 B bb x2 (putP (wantP (s) 127) (32) (1) (0)) hA2 hBB2 hc2)
  have HF2 := Lib.hid hf2
  have HK2 := Lib.hid hk2
  clear hA2 hf2 hk2 hBB2 hin2 hsz2 hc2 hs2 hbn2
  refine HC2.out.mono ?_
  rintro e3 w3 ⟨rfl, u3⟩
  have HU3 := Lib.hid (Upd.trans HF2.out HK2.out u3)
  have HI3 := Lib.hid (show Inv (putP (putP (wantP (s) 127) (32) (1) (0)) (106 + (op : Int) / 2 % 15) (0) (0) : St) (n + 4 + 1 + 1) from HI2.out.put _ _ _)
  clear u3 HC2 HF2 HK2 y0 y1 y2 y3 y4
  obtain ⟨y0, y1, y2, y3, y4⟩ := HBOX.out _ _ HU3.out
  go_wp2_with fail
  go_end0
  refine ⟨rfl, ?_⟩
  have hJ : doesP s ⟨kind, a, b, op⟩ = putP (putP (wantP (s) 127) (32) (1) (0)) (106 + (op : Int) / 2 % 15) (0) (0) := by
    simp [doesP, hk, hp]
  rw [← HJ.out, hJ]
  exact Upd.after HB0.out HU3.out
set_option maxRecDepth 100000 in
set_option maxHeartbeats 4000000 in
theorem does_3_0 (kind : Nat) (a b : Int) (op : Nat) (w : World) (B bb : Nat) (x : Px) (s : St) (n : Nat) (hI : Inv s n) (hn : n ≤ 700000) (h : PAt w B bb x s) (hB : B ≤ w.heap.size) (hkd : kind < 256) (hop : op < 256) (hk : kind % 16 = 3) (hp : op % 2 = 0) :
    Calls Tryz.prog 14 #[.pointer (some ⟨bb, 0, none⟩), .agg #[.int .u8 (kind : Int), .int .i64 a, .int .i64 b, .int .u8 (op : Int)]] w fun e w' => e = .returned (.tuple #[]) ∧ Upd w B bb x (doesP s ⟨kind, a, b, op⟩) w' := by
  obtain ⟨J, hJ⟩ : ∃ J, doesP s ⟨kind, a, b, op⟩ = J := ⟨_, rfl⟩
  rw [hJ]
  have HJ := Lib.hid hJ
  clear hJ
  obtain ⟨w0, hw0⟩ : ∃ w0, w.alloc (.cells #[.int .u8 (kind : Int), .int .i64 a, .int .i64 b, .int .u8 (op : Int)] 62) = w0 := ⟨_, rfl⟩
  have B0 : Below w.heap.size w w0 := by rw [← hw0]; exact (Below.refl _ _).alloc (Nat.le_refl _) _
  have z0 : w.heap.size < w0.heap.size := by rw [← hw0]; simp
  have hbox : ∀ (s' : St) (wr : World), Upd w0 B bb x s' wr → wr.cell? ⟨w.heap.size, 0, none⟩ = some (.int .u8 (kind : Int)) ∧ wr.cell? ⟨w.heap.size, 1, none⟩ = some (.int .i64 a) ∧ wr.cell? ⟨w.heap.size, 2, none⟩ = some (.int .i64 b) ∧ wr.cell? ⟨w.heap.size, 3, none⟩ = some (.int .u8 (op : Int)) ∧ w.heap.size < wr.heap.size := fun s' wr u => by
    rw [← hw0] at u
    exact ⟨Upd.box h u (by simp), Upd.box h u (by simp), Upd.box h u (by simp), Upd.box h u (by simp), by have := u.size; simp at this; omega⟩
  have HBOX := Lib.hid hbox
  have HB0 := Lib.hid B0
  have HI0 := Lib.hid hI
  have HU0 := Lib.hid (Upd.same (h.later B0))
  have HW := Lib.hid hw0
  obtain ⟨y0, y1, y2, y3, y4⟩ := hbox _ _ HU0.out
  have HH := Lib.hid h
  clear hbox h hI B0 hw0
  have hki : (kind : Int) % 16 = 3 := by omega
  have hpi : (op : Int) % 2 = 0 := by omega
  go_enter Tryz.func14, Tryz.ntmps14
  have hw0 := HW.out
  go_upto_region 1 with fail
  clear hw0
  go_wp2_with fail
  have HP1 := Lib.hid (has_want HI0.out 126)
  obtain ⟨x0, hA0, hf0, hk0⟩ := HU0.out
  have hBB0 : B ≤ w0.heap.size := Nat.le_trans hB (by have := hk0.size; omega)
  have hin0 := HI0.out
  have hsz0 := hin0.size
  have hc0 : (s : St).code.length < 1000000 := by omega
  have hs0 : (s : St).stack.length < 1000000 := by omega
  have hbn0 : n ≤ 700000 := hn
  have HC0 := Lib.hid (want_any 126 w0 B bb x0 _ _ hin0 (by omega) hA0 hBB0 (by decide))
  have HF0 := Lib.hid hf0
  have HK0 := Lib.hid hk0
  clear hA0 hf0 hk0 hBB0 hin0 hsz0 hc0 hs0 hbn0
  refine HC0.out.mono ?_
  rintro e1 w1 ⟨rfl, u1⟩
  have HU1 := Lib.hid (Upd.trans HF0.out HK0.out u1)
  have HI1 := Lib.hid (show Inv (wantP (s) 126 : St) (n + 4) from HI0.out.want (by decide))
  clear u1 HC0 HF0 HK0 y0 y1 y2 y3 y4
  obtain ⟨y0, y1, y2, y3, y4⟩ := HBOX.out _ _ HU1.out
  go_wp2_with fail
  obtain ⟨x1, hA1, hf1, hk1⟩ := HU1.out
  have hBB1 : B ≤ w1.heap.size := by have := hk1.size; omega
  have hin1 := HI1.out
  have hsz1 := hin1.size
  have hc1 : (wantP (s) 126 : St).code.length < 1000000 := by omega
  have hs1 : (wantP (s) 126 : St).stack.length < 1000000 := by omega
  have hbn1 : n ≤ 700000 := hn
  have HC1 := Lib.hid (put_any (32) (0) (0) w1 B bb x1 (wantP (s) 126) hA1 hBB1 hc1)
  have HF1 := Lib.hid hf1
  have HK1 := Lib.hid hk1
  clear hA1 hf1 hk1 hBB1 hin1 hsz1 hc1 hs1 hbn1
  refine HC1.out.mono ?_
  rintro e2 w2 ⟨rfl, u2⟩
  have HU2 := Lib.hid (Upd.trans HF1.out HK1.out u2)
  have HI2 := Lib.hid (show Inv (putP (wantP (s) 126) (32) (0) (0) : St) (n + 4 + 1) from HI1.out.put _ _ _)
  clear u2 HC1 HF1 HK1 y0 y1 y2 y3 y4
  obtain ⟨y0, y1, y2, y3, y4⟩ := HBOX.out _ _ HU2.out
  go_wp2_with fail
  obtain ⟨x2, hA2, hf2, hk2⟩ := HU2.out
  have hBB2 : B ≤ w2.heap.size := by have := hk2.size; omega
  have hin2 := HI2.out
  have hsz2 := hin2.size
  have hc2 : (putP (wantP (s) 126) (32) (0) (0) : St).code.length < 1000000 := by omega
  have hs2 : (putP (wantP (s) 126) (32) (0) (0) : St).stack.length < 1000000 := by omega
  have hbn2 : n ≤ 700000 := hn
  have HC2 := Lib.hid (put_any (124 + (op : Int) / 2 % 15) (0) (0) w2 B bb x2 (putP (wantP (s) 126) (32) (0) (0)) hA2 hBB2 hc2)
  have HF2 := Lib.hid hf2
  have HK2 := Lib.hid hk2
  clear hA2 hf2 hk2 hBB2 hin2 hsz2 hc2 hs2 hbn2
  refine HC2.out.mono ?_
  rintro e3 w3 ⟨rfl, u3⟩
  have HU3 := Lib.hid (Upd.trans HF2.out HK2.out u3)
  have HI3 := Lib.hid (show Inv (putP (putP (wantP (s) 126) (32) (0) (0)) (124 + (op : Int) / 2 % 15) (0) (0) : St) (n + 4 + 1 + 1) from HI2.out.put _ _ _)
  clear u3 HC2 HF2 HK2 y0 y1 y2 y3 y4
  obtain ⟨y0, y1, y2, y3, y4⟩ := HBOX.out _ _ HU3.out
  go_wp2_with fail
  go_end0
  refine ⟨rfl, ?_⟩
  have hJ : doesP s ⟨kind, a, b, op⟩ = putP (putP (wantP (s) 126) (32) (0) (0)) (124 + (op : Int) / 2 % 15) (0) (0) := by
    simp [doesP, hk, hp]
  rw [← HJ.out, hJ]
  exact Upd.after HB0.out HU3.out
set_option maxRecDepth 100000 in
set_option maxHeartbeats 4000000 in
theorem does_3_1 (kind : Nat) (a b : Int) (op : Nat) (w : World) (B bb : Nat) (x : Px) (s : St) (n : Nat) (hI : Inv s n) (hn : n ≤ 700000) (h : PAt w B bb x s) (hB : B ≤ w.heap.size) (hkd : kind < 256) (hop : op < 256) (hk : kind % 16 = 3) (hp : op % 2 = 1) :
    Calls Tryz.prog 14 #[.pointer (some ⟨bb, 0, none⟩), .agg #[.int .u8 (kind : Int), .int .i64 a, .int .i64 b, .int .u8 (op : Int)]] w fun e w' => e = .returned (.tuple #[]) ∧ Upd w B bb x (doesP s ⟨kind, a, b, op⟩) w' := by
  obtain ⟨J, hJ⟩ : ∃ J, doesP s ⟨kind, a, b, op⟩ = J := ⟨_, rfl⟩
  rw [hJ]
  have HJ := Lib.hid hJ
  clear hJ
  obtain ⟨w0, hw0⟩ : ∃ w0, w.alloc (.cells #[.int .u8 (kind : Int), .int .i64 a, .int .i64 b, .int .u8 (op : Int)] 62) = w0 := ⟨_, rfl⟩
  have B0 : Below w.heap.size w w0 := by rw [← hw0]; exact (Below.refl _ _).alloc (Nat.le_refl _) _
  have z0 : w.heap.size < w0.heap.size := by rw [← hw0]; simp
  have hbox : ∀ (s' : St) (wr : World), Upd w0 B bb x s' wr → wr.cell? ⟨w.heap.size, 0, none⟩ = some (.int .u8 (kind : Int)) ∧ wr.cell? ⟨w.heap.size, 1, none⟩ = some (.int .i64 a) ∧ wr.cell? ⟨w.heap.size, 2, none⟩ = some (.int .i64 b) ∧ wr.cell? ⟨w.heap.size, 3, none⟩ = some (.int .u8 (op : Int)) ∧ w.heap.size < wr.heap.size := fun s' wr u => by
    rw [← hw0] at u
    exact ⟨Upd.box h u (by simp), Upd.box h u (by simp), Upd.box h u (by simp), Upd.box h u (by simp), by have := u.size; simp at this; omega⟩
  have HBOX := Lib.hid hbox
  have HB0 := Lib.hid B0
  have HI0 := Lib.hid hI
  have HU0 := Lib.hid (Upd.same (h.later B0))
  have HW := Lib.hid hw0
  obtain ⟨y0, y1, y2, y3, y4⟩ := hbox _ _ HU0.out
  have HH := Lib.hid h
  clear hbox h hI B0 hw0
  have hki : (kind : Int) % 16 = 3 := by omega
  have hpi : (op : Int) % 2 = 1 := by omega
  go_enter Tryz.func14, Tryz.ntmps14
  have hw0 := HW.out
  go_upto_region 1 with fail
  clear hw0
  go_wp2_with fail
  have HP1 := Lib.hid (has_want HI0.out 127)
  obtain ⟨x0, hA0, hf0, hk0⟩ := HU0.out
  have hBB0 : B ≤ w0.heap.size := Nat.le_trans hB (by have := hk0.size; omega)
  have hin0 := HI0.out
  have hsz0 := hin0.size
  have hc0 : (s : St).code.length < 1000000 := by omega
  have hs0 : (s : St).stack.length < 1000000 := by omega
  have hbn0 : n ≤ 700000 := hn
  have HC0 := Lib.hid (want_any 127 w0 B bb x0 _ _ hin0 (by omega) hA0 hBB0 (by decide))
  have HF0 := Lib.hid hf0
  have HK0 := Lib.hid hk0
  clear hA0 hf0 hk0 hBB0 hin0 hsz0 hc0 hs0 hbn0
  refine HC0.out.mono ?_
  rintro e1 w1 ⟨rfl, u1⟩
  have HU1 := Lib.hid (Upd.trans HF0.out HK0.out u1)
  have HI1 := Lib.hid (show Inv (wantP (s) 127 : St) (n + 4) from HI0.out.want (by decide))
  clear u1 HC0 HF0 HK0 y0 y1 y2 y3 y4
  obtain ⟨y0, y1, y2, y3, y4⟩ := HBOX.out _ _ HU1.out
  go_wp2_with fail
  obtain ⟨x1, hA1, hf1, hk1⟩ := HU1.out
  have hBB1 : B ≤ w1.heap.size := by have := hk1.size; omega
  have hin1 := HI1.out
  have hsz1 := hin1.size
  have hc1 : (wantP (s) 127 : St).code.length < 1000000 := by omega
  have hs1 : (wantP (s) 127 : St).stack.length < 1000000 := by omega
  have hbn1 : n ≤ 700000 := hn
  have HC1 := Lib.hid (put_any (32) (1) (0) w1 B bb x1 (wantP (s) 127) hA1 hBB1 hc1)
  have HF1 := Lib.hid hf1
  have HK1 := Lib.hid hk1
  clear hA1 hf1 hk1 hBB1 hin1 hsz1 hc1 hs1 hbn1
  refine HC1.out.mono ?_
  rintro e2 w2 ⟨rfl, u2⟩
  have HU2 := Lib.hid (Upd.trans HF1.out HK1.out u2)
  have HI2 := Lib.hid (show Inv (putP (wantP (s) 127) (32) (1) (0) : St) (n + 4 + 1) from HI1.out.put _ _ _)
  clear u2 HC1 HF1 HK1 y0 y1 y2 y3 y4
  obtain ⟨y0, y1, y2, y3, y4⟩ := HBOX.out _ _ HU2.out
  go_wp2_with fail
  obtain ⟨x2, hA2, hf2, hk2⟩ := HU2.out
  have hBB2 : B ≤ w2.heap.size := by have := hk2.size; omega
  have hin2 := HI2.out
  have hsz2 := hin2.size
  have hc2 : (putP (wantP (s) 127) (32) (1) (0) : St).code.length < 1000000 := by omega
  have hs2 : (putP (wantP (s) 127) (32) (1) (0) : St).stack.length < 1000000 := by omega
  have hbn2 : n ≤ 700000 := hn
  have HC2 := Lib.hid (put_any (106 + (op : Int) / 2 % 15) (0) (0) w2 B bb x2 (putP (wantP (s) 127) (32) (1) (0)) hA2 hBB2 hc2)
  have HF2 := Lib.hid hf2
  have HK2 := Lib.hid hk2
  clear hA2 hf2 hk2 hBB2 hin2 hsz2 hc2 hs2 hbn2
  refine HC2.out.mono ?_
  rintro e3 w3 ⟨rfl, u3⟩
  have HU3 := Lib.hid (Upd.trans HF2.out HK2.out u3)
  have HI3 := Lib.hid (show Inv (putP (putP (wantP (s) 127) (32) (1) (0)) (106 + (op : Int) / 2 % 15) (0) (0) : St) (n + 4 + 1 + 1) from HI2.out.put _ _ _)
  clear u3 HC2 HF2 HK2 y0 y1 y2 y3 y4
  obtain ⟨y0, y1, y2, y3, y4⟩ := HBOX.out _ _ HU3.out
  go_wp2_with fail
  go_end0
  refine ⟨rfl, ?_⟩
  have hJ : doesP s ⟨kind, a, b, op⟩ = putP (putP (wantP (s) 127) (32) (1) (0)) (106 + (op : Int) / 2 % 15) (0) (0) := by
    simp [doesP, hk, hp]
  rw [← HJ.out, hJ]
  exact Upd.after HB0.out HU3.out
set_option maxRecDepth 100000 in
set_option maxHeartbeats 4000000 in
theorem does_4_0 (kind : Nat) (a b : Int) (op : Nat) (w : World) (B bb : Nat) (x : Px) (s : St) (n : Nat) (hI : Inv s n) (hn : n ≤ 700000) (h : PAt w B bb x s) (hB : B ≤ w.heap.size) (hkd : kind < 256) (hop : op < 256) (hk : kind % 16 = 4) (hp : op % 2 = 0) :
    Calls Tryz.prog 14 #[.pointer (some ⟨bb, 0, none⟩), .agg #[.int .u8 (kind : Int), .int .i64 a, .int .i64 b, .int .u8 (op : Int)]] w fun e w' => e = .returned (.tuple #[]) ∧ Upd w B bb x (doesP s ⟨kind, a, b, op⟩) w' := by
  obtain ⟨J, hJ⟩ : ∃ J, doesP s ⟨kind, a, b, op⟩ = J := ⟨_, rfl⟩
  rw [hJ]
  have HJ := Lib.hid hJ
  clear hJ
  obtain ⟨w0, hw0⟩ : ∃ w0, w.alloc (.cells #[.int .u8 (kind : Int), .int .i64 a, .int .i64 b, .int .u8 (op : Int)] 62) = w0 := ⟨_, rfl⟩
  have B0 : Below w.heap.size w w0 := by rw [← hw0]; exact (Below.refl _ _).alloc (Nat.le_refl _) _
  have z0 : w.heap.size < w0.heap.size := by rw [← hw0]; simp
  have hbox : ∀ (s' : St) (wr : World), Upd w0 B bb x s' wr → wr.cell? ⟨w.heap.size, 0, none⟩ = some (.int .u8 (kind : Int)) ∧ wr.cell? ⟨w.heap.size, 1, none⟩ = some (.int .i64 a) ∧ wr.cell? ⟨w.heap.size, 2, none⟩ = some (.int .i64 b) ∧ wr.cell? ⟨w.heap.size, 3, none⟩ = some (.int .u8 (op : Int)) ∧ w.heap.size < wr.heap.size := fun s' wr u => by
    rw [← hw0] at u
    exact ⟨Upd.box h u (by simp), Upd.box h u (by simp), Upd.box h u (by simp), Upd.box h u (by simp), by have := u.size; simp at this; omega⟩
  have HBOX := Lib.hid hbox
  have HB0 := Lib.hid B0
  have HI0 := Lib.hid hI
  have HU0 := Lib.hid (Upd.same (h.later B0))
  have HW := Lib.hid hw0
  obtain ⟨y0, y1, y2, y3, y4⟩ := hbox _ _ HU0.out
  have HH := Lib.hid h
  clear hbox h hI B0 hw0
  have hki : (kind : Int) % 16 = 4 := by omega
  have hpi : (op : Int) % 2 = 0 := by omega
  go_enter Tryz.func14, Tryz.ntmps14
  have hw0 := HW.out
  go_upto_region 1 with fail
  clear hw0
  go_wp2_with fail
  have HP1 := Lib.hid (has_want HI0.out 126)
  obtain ⟨x0, hA0, hf0, hk0⟩ := HU0.out
  have hBB0 : B ≤ w0.heap.size := Nat.le_trans hB (by have := hk0.size; omega)
  have hin0 := HI0.out
  have hsz0 := hin0.size
  have hc0 : (s : St).code.length < 1000000 := by omega
  have hs0 : (s : St).stack.length < 1000000 := by omega
  have hbn0 : n ≤ 700000 := hn
  have HC0 := Lib.hid (want_any 126 w0 B bb x0 _ _ hin0 (by omega) hA0 hBB0 (by decide))
  have HF0 := Lib.hid hf0
  have HK0 := Lib.hid hk0
  clear hA0 hf0 hk0 hBB0 hin0 hsz0 hc0 hs0 hbn0
  refine HC0.out.mono ?_
  rintro e1 w1 ⟨rfl, u1⟩
  have HU1 := Lib.hid (Upd.trans HF0.out HK0.out u1)
  have HI1 := Lib.hid (show Inv (wantP (s) 126 : St) (n + 4) from HI0.out.want (by decide))
  clear u1 HC0 HF0 HK0 y0 y1 y2 y3 y4
  obtain ⟨y0, y1, y2, y3, y4⟩ := HBOX.out _ _ HU1.out
  go_wp2_with fail
  obtain ⟨x1, hA1, hf1, hk1⟩ := HU1.out
  have hBB1 : B ≤ w1.heap.size := by have := hk1.size; omega
  have hin1 := HI1.out
  have hsz1 := hin1.size
  have hc1 : (wantP (s) 126 : St).code.length < 1000000 := by omega
  have hs1 : (wantP (s) 126 : St).stack.length < 1000000 := by omega
  have hbn1 : n ≤ 700000 := hn
  have HC1 := Lib.hid (put_any (80) (0) (0) w1 B bb x1 (wantP (s) 126) hA1 hBB1 hc1)
  have HF1 := Lib.hid hf1
  have HK1 := Lib.hid hk1
  clear hA1 hf1 hk1 hBB1 hin1 hsz1 hc1 hs1 hbn1
  refine HC1.out.mono ?_
  rintro e2 w2 ⟨rfl, u2⟩
  have HU2 := Lib.hid (Upd.trans HF1.out HK1.out u2)
  have HI2 := Lib.hid (show Inv (putP (wantP (s) 126) (80) (0) (0) : St) (n + 4 + 1) from HI1.out.put _ _ _)
  clear u2 HC1 HF1 HK1 y0 y1 y2 y3 y4
  obtain ⟨y0, y1, y2, y3, y4⟩ := HBOX.out _ _ HU2.out
  go_wp2_with fail
  obtain ⟨x2, hA2, hf2, hk2⟩ := HU2.out
  have hBB2 : B ≤ w2.heap.size := by have := hk2.size; omega
  have hin2 := HI2.out
  have hsz2 := hin2.size
  have hc2 : (putP (wantP (s) 126) (80) (0) (0) : St).code.length < 1000000 := by omega
  have hs2 : (putP (wantP (s) 126) (80) (0) (0) : St).stack.length < 1000000 := by omega
  have hbn2 : n ≤ 700000 := hn
  have HC2 := Lib.hid (take_any w2 B bb x2 (putP (wantP (s) 126) (80) (0) (0)) hA2 hs2 (by have := HP1.out; unfold hasP at this; show 0 < _; exact Nat.lt_of_lt_of_le this (Nat.sub_le _ _)))
  have HF2 := Lib.hid hf2
  have HK2 := Lib.hid hk2
  clear hA2 hf2 hk2 hBB2 hin2 hsz2 hc2 hs2 hbn2
  refine HC2.out.mono ?_
  rintro e3 w3 ⟨rfl, u3⟩
  have HU3 := Lib.hid (Upd.trans HF2.out HK2.out u3)
  have HI3 := Lib.hid (show Inv (takeP (putP (wantP (s) 126) (80) (0) (0)) : St) (n + 4 + 1) from HI2.out.take HP1.out)
  clear u3 HC2 HF2 HK2 y0 y1 y2 y3 y4
  obtain ⟨y0, y1, y2, y3, y4⟩ := HBOX.out _ _ HU3.out
  go_wp2_with fail
  obtain ⟨x3, hA3, hf3, hk3⟩ := HU3.out
  have hBB3 : B ≤ w3.heap.size := by have := hk3.size; omega
  have hin3 := HI3.out
  have hsz3 := hin3.size
  have hc3 : (takeP (putP (wantP (s) 126) (80) (0) (0)) : St).code.length < 1000000 := by omega
  have hs3 : (takeP (putP (wantP (s) 126) (80) (0) (0)) : St).stack.length < 1000000 := by omega
  have hbn3 : n ≤ 700000 := hn
  have HC3 := Lib.hid (push_any 127 w3 B bb x3 (takeP (putP (wantP (s) 126) (80) (0) (0))) hA3 hBB3 hs3)
  have HF3 := Lib.hid hf3
  have HK3 := Lib.hid hk3
  clear hA3 hf3 hk3 hBB3 hin3 hsz3 hc3 hs3 hbn3
  refine HC3.out.mono ?_
  rintro e4 w4 ⟨rfl, u4⟩
  have HU4 := Lib.hid (Upd.trans HF3.out HK3.out u4)
  have HI4 := Lib.hid (show Inv (pushP (takeP (putP (wantP (s) 126) (80) (0) (0))) 127 : St) (n + 4 + 1 + 3) from HI3.out.push (by decide))
  clear u4 HC3 HF3 HK3 y0 y1 y2 y3 y4
  obtain ⟨y0, y1, y2, y3, y4⟩ := HBOX.out _ _ HU4.out
  go_wp2_with fail
  go_end0
  refine ⟨rfl, ?_⟩
  have hJ : doesP s ⟨kind, a, b, op⟩ = pushP (takeP (putP (wantP (s) 126) (80) (0) (0))) 127 := by
    simp [doesP, hk, hp]
  rw [← HJ.out, hJ]
  exact Upd.after HB0.out HU4.out
set_option maxRecDepth 100000 in
set_option maxHeartbeats 4000000 in
theorem does_4_1 (kind : Nat) (a b : Int) (op : Nat) (w : World) (B bb : Nat) (x : Px) (s : St) (n : Nat) (hI : Inv s n) (hn : n ≤ 700000) (h : PAt w B bb x s) (hB : B ≤ w.heap.size) (hkd : kind < 256) (hop : op < 256) (hk : kind % 16 = 4) (hp : op % 2 = 1) :
    Calls Tryz.prog 14 #[.pointer (some ⟨bb, 0, none⟩), .agg #[.int .u8 (kind : Int), .int .i64 a, .int .i64 b, .int .u8 (op : Int)]] w fun e w' => e = .returned (.tuple #[]) ∧ Upd w B bb x (doesP s ⟨kind, a, b, op⟩) w' := by
  obtain ⟨J, hJ⟩ : ∃ J, doesP s ⟨kind, a, b, op⟩ = J := ⟨_, rfl⟩
  rw [hJ]
  have HJ := Lib.hid hJ
  clear hJ
  obtain ⟨w0, hw0⟩ : ∃ w0, w.alloc (.cells #[.int .u8 (kind : Int), .int .i64 a, .int .i64 b, .int .u8 (op : Int)] 62) = w0 := ⟨_, rfl⟩
  have B0 : Below w.heap.size w w0 := by rw [← hw0]; exact (Below.refl _ _).alloc (Nat.le_refl _) _
  have z0 : w.heap.size < w0.heap.size := by rw [← hw0]; simp
  have hbox : ∀ (s' : St) (wr : World), Upd w0 B bb x s' wr → wr.cell? ⟨w.heap.size, 0, none⟩ = some (.int .u8 (kind : Int)) ∧ wr.cell? ⟨w.heap.size, 1, none⟩ = some (.int .i64 a) ∧ wr.cell? ⟨w.heap.size, 2, none⟩ = some (.int .i64 b) ∧ wr.cell? ⟨w.heap.size, 3, none⟩ = some (.int .u8 (op : Int)) ∧ w.heap.size < wr.heap.size := fun s' wr u => by
    rw [← hw0] at u
    exact ⟨Upd.box h u (by simp), Upd.box h u (by simp), Upd.box h u (by simp), Upd.box h u (by simp), by have := u.size; simp at this; omega⟩
  have HBOX := Lib.hid hbox
  have HB0 := Lib.hid B0
  have HI0 := Lib.hid hI
  have HU0 := Lib.hid (Upd.same (h.later B0))
  have HW := Lib.hid hw0
  obtain ⟨y0, y1, y2, y3, y4⟩ := hbox _ _ HU0.out
  have HH := Lib.hid h
  clear hbox h hI B0 hw0
  have hki : (kind : Int) % 16 = 4 := by omega
  have hpi : (op : Int) % 2 = 1 := by omega
  go_enter Tryz.func14, Tryz.ntmps14
  have hw0 := HW.out
  go_upto_region 1 with fail
  clear hw0
  go_wp2_with fail
  have HP1 := Lib.hid (has_want HI0.out 127)
  obtain ⟨x0, hA0, hf0, hk0⟩ := HU0.out
  have hBB0 : B ≤ w0.heap.size := Nat.le_trans hB (by have := hk0.size; omega)
  have hin0 := HI0.out
  have hsz0 := hin0.size
  have hc0 : (s : St).code.length < 1000000 := by omega
  have hs0 : (s : St).stack.length < 1000000 := by omega
  have hbn0 : n ≤ 700000 := hn
  have HC0 := Lib.hid (want_any 127 w0 B bb x0 _ _ hin0 (by omega) hA0 hBB0 (by decide))
  have HF0 := Lib.hid hf0
  have HK0 := Lib.hid hk0
  clear hA0 hf0 hk0 hBB0 hin0 hsz0 hc0 hs0 hbn0
  refine HC0.out.mono ?_
  rintro e1 w1 ⟨rfl, u1⟩
  have HU1 := Lib.hid (Upd.trans HF0.out HK0.out u1)
  have HI1 := Lib.hid (show Inv (wantP (s) 127 : St) (n + 4) from HI0.out.want (by decide))
  clear u1 HC0 HF0 HK0 y0 y1 y2 y3 y4
  obtain ⟨y0, y1, y2, y3, y4⟩ := HBOX.out _ _ HU1.out
  go_wp2_with fail
  obtain ⟨x1, hA1, hf1, hk1⟩ := HU1.out
  have hBB1 : B ≤ w1.heap.size := by have := hk1.size; omega
  have hin1 := HI1.out
  have hsz1 := hin1.size
  have hc1 : (wantP (s) 127 : St).code.length < 1000000 := by omega
  have hs1 : (wantP (s) 127 : St).stack.length < 1000000 := by omega
  have hbn1 : n ≤ 700000 := hn
  have HC1 := Lib.hid (put_any (69) (0) (0) w1 B bb x1 (wantP (s) 127) hA1 hBB1 hc1)
  have HF1 := Lib.hid hf1
  have HK1 := Lib.hid hk1
  clear hA1 hf1 hk1 hBB1 hin1 hsz1 hc1 hs1 hbn1
  refine HC1.out.mono ?_
  rintro e2 w2 ⟨rfl, u2⟩
  have HU2 := Lib.hid (Upd.trans HF1.out HK1.out u2)
  have HI2 := Lib.hid (show Inv (putP (wantP (s) 127) (69) (0) (0) : St) (n + 4 + 1) from HI1.out.put _ _ _)
  clear u2 HC1 HF1 HK1 y0 y1 y2 y3 y4
  obtain ⟨y0, y1, y2, y3, y4⟩ := HBOX.out _ _ HU2.out
  go_wp2_with fail
  obtain ⟨x2, hA2, hf2, hk2⟩ := HU2.out
  have hBB2 : B ≤ w2.heap.size := by have := hk2.size; omega
  have hin2 := HI2.out
  have hsz2 := hin2.size
  have hc2 : (putP (wantP (s) 127) (69) (0) (0) : St).code.length < 1000000 := by omega
  have hs2 : (putP (wantP (s) 127) (69) (0) (0) : St).stack.length < 1000000 := by omega
  have hbn2 : n ≤ 700000 := hn
  have HC2 := Lib.hid (take_any w2 B bb x2 (putP (wantP (s) 127) (69) (0) (0)) hA2 hs2 (by have := HP1.out; unfold hasP at this; show 0 < _; exact Nat.lt_of_lt_of_le this (Nat.sub_le _ _)))
  have HF2 := Lib.hid hf2
  have HK2 := Lib.hid hk2
  clear hA2 hf2 hk2 hBB2 hin2 hsz2 hc2 hs2 hbn2
  refine HC2.out.mono ?_
  rintro e3 w3 ⟨rfl, u3⟩
  have HU3 := Lib.hid (Upd.trans HF2.out HK2.out u3)
  have HI3 := Lib.hid (show Inv (takeP (putP (wantP (s) 127) (69) (0) (0)) : St) (n + 4 + 1) from HI2.out.take HP1.out)
  clear u3 HC2 HF2 HK2 y0 y1 y2 y3 y4
  obtain ⟨y0, y1, y2, y3, y4⟩ := HBOX.out _ _ HU3.out
  go_wp2_with fail
  obtain ⟨x3, hA3, hf3, hk3⟩ := HU3.out
  have hBB3 : B ≤ w3.heap.size := by have := hk3.size; omega
  have hin3 := HI3.out
  have hsz3 := hin3.size
  have hc3 : (takeP (putP (wantP (s) 127) (69) (0) (0)) : St).code.length < 1000000 := by omega
  have hs3 : (takeP (putP (wantP (s) 127) (69) (0) (0)) : St).stack.length < 1000000 := by omega
  have hbn3 : n ≤ 700000 := hn
  have HC3 := Lib.hid (push_any 127 w3 B bb x3 (takeP (putP (wantP (s) 127) (69) (0) (0))) hA3 hBB3 hs3)
  have HF3 := Lib.hid hf3
  have HK3 := Lib.hid hk3
  clear hA3 hf3 hk3 hBB3 hin3 hsz3 hc3 hs3 hbn3
  refine HC3.out.mono ?_
  rintro e4 w4 ⟨rfl, u4⟩
  have HU4 := Lib.hid (Upd.trans HF3.out HK3.out u4)
  have HI4 := Lib.hid (show Inv (pushP (takeP (putP (wantP (s) 127) (69) (0) (0))) 127 : St) (n + 4 + 1 + 3) from HI3.out.push (by decide))
  clear u4 HC3 HF3 HK3 y0 y1 y2 y3 y4
  obtain ⟨y0, y1, y2, y3, y4⟩ := HBOX.out _ _ HU4.out
  go_wp2_with fail
  go_end0
  refine ⟨rfl, ?_⟩
  have hJ : doesP s ⟨kind, a, b, op⟩ = pushP (takeP (putP (wantP (s) 127) (69) (0) (0))) 127 := by
    simp [doesP, hk, hp]
  rw [← HJ.out, hJ]
  exact Upd.after HB0.out HU4.out
set_option maxRecDepth 100000 in
set_option maxHeartbeats 4000000 in
theorem does_5_0 (kind : Nat) (a b : Int) (op : Nat) (w : World) (B bb : Nat) (x : Px) (s : St) (n : Nat) (hI : Inv s n) (hn : n ≤ 700000) (h : PAt w B bb x s) (hB : B ≤ w.heap.size) (hkd : kind < 256) (hop : op < 256) (hk : kind % 16 = 5) (hp : op % 4 = 0) :
    Calls Tryz.prog 14 #[.pointer (some ⟨bb, 0, none⟩), .agg #[.int .u8 (kind : Int), .int .i64 a, .int .i64 b, .int .u8 (op : Int)]] w fun e w' => e = .returned (.tuple #[]) ∧ Upd w B bb x (doesP s ⟨kind, a, b, op⟩) w' := by
  obtain ⟨J, hJ⟩ : ∃ J, doesP s ⟨kind, a, b, op⟩ = J := ⟨_, rfl⟩
  rw [hJ]
  have HJ := Lib.hid hJ
  clear hJ
  obtain ⟨w0, hw0⟩ : ∃ w0, w.alloc (.cells #[.int .u8 (kind : Int), .int .i64 a, .int .i64 b, .int .u8 (op : Int)] 62) = w0 := ⟨_, rfl⟩
  have B0 : Below w.heap.size w w0 := by rw [← hw0]; exact (Below.refl _ _).alloc (Nat.le_refl _) _
  have z0 : w.heap.size < w0.heap.size := by rw [← hw0]; simp
  have hbox : ∀ (s' : St) (wr : World), Upd w0 B bb x s' wr → wr.cell? ⟨w.heap.size, 0, none⟩ = some (.int .u8 (kind : Int)) ∧ wr.cell? ⟨w.heap.size, 1, none⟩ = some (.int .i64 a) ∧ wr.cell? ⟨w.heap.size, 2, none⟩ = some (.int .i64 b) ∧ wr.cell? ⟨w.heap.size, 3, none⟩ = some (.int .u8 (op : Int)) ∧ w.heap.size < wr.heap.size := fun s' wr u => by
    rw [← hw0] at u
    exact ⟨Upd.box h u (by simp), Upd.box h u (by simp), Upd.box h u (by simp), Upd.box h u (by simp), by have := u.size; simp at this; omega⟩
  have HBOX := Lib.hid hbox
  have HB0 := Lib.hid B0
  have HI0 := Lib.hid hI
  have HU0 := Lib.hid (Upd.same (h.later B0))
  have HW := Lib.hid hw0
  obtain ⟨y0, y1, y2, y3, y4⟩ := hbox _ _ HU0.out
  have HH := Lib.hid h
  clear hbox h hI B0 hw0
  have hki : (kind : Int) % 16 = 5 := by omega
  have hpi : (op : Int) % 4 = 0 := by omega
  have hp2 : (op : Int) % 2 = 0 := by omega
  go_enter Tryz.func14, Tryz.ntmps14
  have hw0 := HW.out
  go_upto_region 1 with fail
  clear hw0
  go_wp2_with fail
  obtain ⟨x0, hA0, hf0, hk0⟩ := HU0.out
  have hBB0 : B ≤ w0.heap.size := Nat.le_trans hB (by have := hk0.size; omega)
  have hin0 := HI0.out
  have hsz0 := hin0.size
  have hc0 : (s : St).code.length < 1000000 := by omega
  have hs0 : (s : St).stack.length < 1000000 := by omega
  have hbn0 : n ≤ 700000 := hn
  have HC0 := Lib.hid (put_any (32) (0) (0) w0 B bb x0 (s) hA0 hBB0 hc0)
  have HF0 := Lib.hid hf0
  have HK0 := Lib.hid hk0
  clear hA0 hf0 hk0 hBB0 hin0 hsz0 hc0 hs0 hbn0
  refine HC0.out.mono ?_
  rintro e1 w1 ⟨rfl, u1⟩
  have HU1 := Lib.hid (Upd.trans HF0.out HK0.out u1)
  have HI1 := Lib.hid (show Inv (putP (s) (32) (0) (0) : St) (n + 1) from HI0.out.put _ _ _)
  clear u1 HC0 HF0 HK0 y0 y1 y2 y3 y4
  obtain ⟨y0, y1, y2, y3, y4⟩ := HBOX.out _ _ HU1.out
  go_wp2_with fail
  obtain ⟨w2, hw2⟩ : ∃ W, w1.alloc (.cells #[.int .u8 126, .int .u8 127, .int .u8 127, .int .u8 126] 5) = W := ⟨_, rfl⟩
  have HU2 := Lib.hid (show Upd w0 B bb x (putP (s) (32) (0) (0)) w2 by rw [← hw2]; exact HU1.out.then_ ((Below.refl _ _).alloc (Nat.le_refl _) _))
  have HI2 := Lib.hid HI1.out
  rw [hw2]
  clear hw2 y0 y1 y2 y3 y4
  obtain ⟨y0, y1, y2, y3, y4⟩ := HBOX.out _ _ HU2.out
  obtain ⟨x2, hA2, hf2, hk2⟩ := HU2.out
  have hBB2 : B ≤ w2.heap.size := by have := hk2.size; omega
  have hin2 := HI2.out
  have hsz2 := hin2.size
  have hc2 : (putP (s) (32) (0) (0) : St).code.length < 1000000 := by omega
  have hs2 : (putP (s) (32) (0) (0) : St).stack.length < 1000000 := by omega
  have hbn2 : n ≤ 700000 := hn
  have HC2 := Lib.hid (push_any 126 w2 B bb x2 (putP (s) (32) (0) (0)) hA2 hBB2 hs2)
  have HF2 := Lib.hid hf2
  have HK2 := Lib.hid hk2
  clear hA2 hf2 hk2 hBB2 hin2 hsz2 hc2 hs2 hbn2
  refine HC2.out.mono ?_
  rintro e3 w3 ⟨rfl, u3⟩
  have HU3 := Lib.hid (Upd.trans HF2.out HK2.out u3)
  have HI3 := Lib.hid (show Inv (pushP (putP (s) (32) (0) (0)) 126 : St) (n + 1 + 3) from HI2.out.push (by decide))
  clear u3 HC2 HF2 HK2 y0 y1 y2 y3 y4
  obtain ⟨y0, y1, y2, y3, y4⟩ := HBOX.out _ _ HU3.out
  go_wp2_with fail
  go_end0
  refine ⟨rfl, ?_⟩
  have hJ : doesP s ⟨kind, a, b, op⟩ = pushP (putP (s) (32) (0) (0)) 126 := by
    simp [doesP, hk, hp, kindAt]
  rw [← HJ.out, hJ]
  exact Upd.after HB0.out HU3.out
set_option maxRecDepth 100000 in
set_option maxHeartbeats 4000000 in
theorem does_5_1 (kind : Nat) (a b : Int) (op : Nat) (w : World) (B bb : Nat) (x : Px) (s : St) (n : Nat) (hI : Inv s n) (hn : n ≤ 700000) (h : PAt w B bb x s) (hB : B ≤ w.heap.size) (hkd : kind < 256) (hop : op < 256) (hk : kind % 16 = 5) (hp : op % 4 = 1) :
    Calls Tryz.prog 14 #[.pointer (some ⟨bb, 0, none⟩), .agg #[.int .u8 (kind : Int), .int .i64 a, .int .i64 b, .int .u8 (op : Int)]] w fun e w' => e = .returned (.tuple #[]) ∧ Upd w B bb x (doesP s ⟨kind, a, b, op⟩) w' := by
  obtain ⟨J, hJ⟩ : ∃ J, doesP s ⟨kind, a, b, op⟩ = J := ⟨_, rfl⟩
  rw [hJ]
  have HJ := Lib.hid hJ
  clear hJ
  obtain ⟨w0, hw0⟩ : ∃ w0, w.alloc (.cells #[.int .u8 (kind : Int), .int .i64 a, .int .i64 b, .int .u8 (op : Int)] 62) = w0 := ⟨_, rfl⟩
  have B0 : Below w.heap.size w w0 := by rw [← hw0]; exact (Below.refl _ _).alloc (Nat.le_refl _) _
  have z0 : w.heap.size < w0.heap.size := by rw [← hw0]; simp
  have hbox : ∀ (s' : St) (wr : World), Upd w0 B bb x s' wr → wr.cell? ⟨w.heap.size, 0, none⟩ = some (.int .u8 (kind : Int)) ∧ wr.cell? ⟨w.heap.size, 1, none⟩ = some (.int .i64 a) ∧ wr.cell? ⟨w.heap.size, 2, none⟩ = some (.int .i64 b) ∧ wr.cell? ⟨w.heap.size, 3, none⟩ = some (.int .u8 (op : Int)) ∧ w.heap.size < wr.heap.size := fun s' wr u => by
    rw [← hw0] at u
    exact ⟨Upd.box h u (by simp), Upd.box h u (by simp), Upd.box h u (by simp), Upd.box h u (by simp), by have := u.size; simp at this; omega⟩
  have HBOX := Lib.hid hbox
  have HB0 := Lib.hid B0
  have HI0 := Lib.hid hI
  have HU0 := Lib.hid (Upd.same (h.later B0))
  have HW := Lib.hid hw0
  obtain ⟨y0, y1, y2, y3, y4⟩ := hbox _ _ HU0.out
  have HH := Lib.hid h
  clear hbox h hI B0 hw0
  have hki : (kind : Int) % 16 = 5 := by omega
  have hpi : (op : Int) % 4 = 1 := by omega
  have hp2 : (op : Int) % 2 = 1 := by omega
  go_enter Tryz.func14, Tryz.ntmps14
  have hw0 := HW.out
  go_upto_region 1 with fail
  clear hw0
  go_wp2_with fail
  obtain ⟨x0, hA0, hf0, hk0⟩ := HU0.out
  have hBB0 : B ≤ w0.heap.size := Nat.le_trans hB (by have := hk0.size; omega)
  have hin0 := HI0.out
  have hsz0 := hin0.size
  have hc0 : (s : St).code.length < 1000000 := by omega
  have hs0 : (s : St).stack.length < 1000000 := by omega
  have hbn0 : n ≤ 700000 := hn
  have HC0 := Lib.hid (put_any (32) (1) (0) w0 B bb x0 (s) hA0 hBB0 hc0)
  have HF0 := Lib.hid hf0
  have HK0 := Lib.hid hk0
  clear hA0 hf0 hk0 hBB0 hin0 hsz0 hc0 hs0 hbn0
  refine HC0.out.mono ?_
  rintro e1 w1 ⟨rfl, u1⟩
  have HU1 := Lib.hid (Upd.trans HF0.out HK0.out u1)
  have HI1 := Lib.hid (show Inv (putP (s) (32) (1) (0) : St) (n + 1) from HI0.out.put _ _ _)
  clear u1 HC0 HF0 HK0 y0 y1 y2 y3 y4
  obtain ⟨y0, y1, y2, y3, y4⟩ := HBOX.out _ _ HU1.out
  go_wp2_with fail
  obtain ⟨w2, hw2⟩ : ∃ W, w1.alloc (.cells #[.int .u8 126, .int .u8 127, .int .u8 127, .int .u8 126] 5) = W := ⟨_, rfl⟩
  have HU2 := Lib.hid (show Upd w0 B bb x (putP (s) (32) (1) (0)) w2 by rw [← hw2]; exact HU1.out.then_ ((Below.refl _ _).alloc (Nat.le_refl _) _))
  have HI2 := Lib.hid HI1.out
  rw [hw2]
  clear hw2 y0 y1 y2 y3 y4
  obtain ⟨y0, y1, y2, y3, y4⟩ := HBOX.out _ _ HU2.out
  obtain ⟨x2, hA2, hf2, hk2⟩ := HU2.out
  have hBB2 : B ≤ w2.heap.size := by have := hk2.size; omega
  have hin2 := HI2.out
  have hsz2 := hin2.size
  have hc2 : (putP (s) (32) (1) (0) : St).code.length < 1000000 := by omega
  have hs2 : (putP (s) (32) (1) (0) : St).stack.length < 1000000 := by omega
  have hbn2 : n ≤ 700000 := hn
  have HC2 := Lib.hid (push_any 127 w2 B bb x2 (putP (s) (32) (1) (0)) hA2 hBB2 hs2)
  have HF2 := Lib.hid hf2
  have HK2 := Lib.hid hk2
  clear hA2 hf2 hk2 hBB2 hin2 hsz2 hc2 hs2 hbn2
  refine HC2.out.mono ?_
  rintro e3 w3 ⟨rfl, u3⟩
  have HU3 := Lib.hid (Upd.trans HF2.out HK2.out u3)
  have HI3 := Lib.hid (show Inv (pushP (putP (s) (32) (1) (0)) 127 : St) (n + 1 + 3) from HI2.out.push (by decide))
  clear u3 HC2 HF2 HK2 y0 y1 y2 y3 y4
  obtain ⟨y0, y1, y2, y3, y4⟩ := HBOX.out _ _ HU3.out
  go_wp2_with fail
  go_end0
  refine ⟨rfl, ?_⟩
  have hJ : doesP s ⟨kind, a, b, op⟩ = pushP (putP (s) (32) (1) (0)) 127 := by
    simp [doesP, hk, hp, kindAt]
  rw [← HJ.out, hJ]
  exact Upd.after HB0.out HU3.out
set_option maxRecDepth 100000 in
set_option maxHeartbeats 4000000 in
theorem does_5_2 (kind : Nat) (a b : Int) (op : Nat) (w : World) (B bb : Nat) (x : Px) (s : St) (n : Nat) (hI : Inv s n) (hn : n ≤ 700000) (h : PAt w B bb x s) (hB : B ≤ w.heap.size) (hkd : kind < 256) (hop : op < 256) (hk : kind % 16 = 5) (hp : op % 4 = 2) :
    Calls Tryz.prog 14 #[.pointer (some ⟨bb, 0, none⟩), .agg #[.int .u8 (kind : Int), .int .i64 a, .int .i64 b, .int .u8 (op : Int)]] w fun e w' => e = .returned (.tuple #[]) ∧ Upd w B bb x (doesP s ⟨kind, a, b, op⟩) w' := by
  obtain ⟨J, hJ⟩ : ∃ J, doesP s ⟨kind, a, b, op⟩ = J := ⟨_, rfl⟩
  rw [hJ]
  have HJ := Lib.hid hJ
  clear hJ
  obtain ⟨w0, hw0⟩ : ∃ w0, w.alloc (.cells #[.int .u8 (kind : Int), .int .i64 a, .int .i64 b, .int .u8 (op : Int)] 62) = w0 := ⟨_, rfl⟩
  have B0 : Below w.heap.size w w0 := by rw [← hw0]; exact (Below.refl _ _).alloc (Nat.le_refl _) _
  have z0 : w.heap.size < w0.heap.size := by rw [← hw0]; simp
  have hbox : ∀ (s' : St) (wr : World), Upd w0 B bb x s' wr → wr.cell? ⟨w.heap.size, 0, none⟩ = some (.int .u8 (kind : Int)) ∧ wr.cell? ⟨w.heap.size, 1, none⟩ = some (.int .i64 a) ∧ wr.cell? ⟨w.heap.size, 2, none⟩ = some (.int .i64 b) ∧ wr.cell? ⟨w.heap.size, 3, none⟩ = some (.int .u8 (op : Int)) ∧ w.heap.size < wr.heap.size := fun s' wr u => by
    rw [← hw0] at u
    exact ⟨Upd.box h u (by simp), Upd.box h u (by simp), Upd.box h u (by simp), Upd.box h u (by simp), by have := u.size; simp at this; omega⟩
  have HBOX := Lib.hid hbox
  have HB0 := Lib.hid B0
  have HI0 := Lib.hid hI
  have HU0 := Lib.hid (Upd.same (h.later B0))
  have HW := Lib.hid hw0
  obtain ⟨y0, y1, y2, y3, y4⟩ := hbox _ _ HU0.out
  have HH := Lib.hid h
  clear hbox h hI B0 hw0
  have hki : (kind : Int) % 16 = 5 := by omega
  have hpi : (op : Int) % 4 = 2 := by omega
  have hp2 : (op : Int) % 2 = 0 := by omega
  go_enter Tryz.func14, Tryz.ntmps14
  have hw0 := HW.out
  go_upto_region 1 with fail
  clear hw0
  go_wp2_with fail
  obtain ⟨x0, hA0, hf0, hk0⟩ := HU0.out
  have hBB0 : B ≤ w0.heap.size := Nat.le_trans hB (by have := hk0.size; omega)
  have hin0 := HI0.out
  have hsz0 := hin0.size
  have hc0 : (s : St).code.length < 1000000 := by omega
  have hs0 : (s : St).stack.length < 1000000 := by omega
  have hbn0 : n ≤ 700000 := hn
  have HC0 := Lib.hid (put_any (32) (2) (0) w0 B bb x0 (s) hA0 hBB0 hc0)
  have HF0 := Lib.hid hf0
  have HK0 := Lib.hid hk0
  clear hA0 hf0 hk0 hBB0 hin0 hsz0 hc0 hs0 hbn0
  refine HC0.out.mono ?_
  rintro e1 w1 ⟨rfl, u1⟩
  have HU1 := Lib.hid (Upd.trans HF0.out HK0.out u1)
  have HI1 := Lib.hid (show Inv (putP (s) (32) (2) (0) : St) (n + 1) from HI0.out.put _ _ _)
  clear u1 HC0 HF0 HK0 y0 y1 y2 y3 y4
  obtain ⟨y0, y1, y2, y3, y4⟩ := HBOX.out _ _ HU1.out
  go_wp2_with fail
  obtain ⟨w2, hw2⟩ : ∃ W, w1.alloc (.cells #[.int .u8 126, .int .u8 127, .int .u8 127, .int .u8 126] 5) = W := ⟨_, rfl⟩
  have HU2 := Lib.hid (show Upd w0 B bb x (putP (s) (32) (2) (0)) w2 by rw [← hw2]; exact HU1.out.then_ ((Below.refl _ _).alloc (Nat.le_refl _) _))
  have HI2 := Lib.hid HI1.out
  rw [hw2]
  clear hw2 y0 y1 y2 y3 y4
  obtain ⟨y0, y1, y2, y3, y4⟩ := HBOX.out _ _ HU2.out
  obtain ⟨x2, hA2, hf2, hk2⟩ := HU2.out
  have hBB2 : B ≤ w2.heap.size := by have := hk2.size; omega
  have hin2 := HI2.out
  have hsz2 := hin2.size
  have hc2 : (putP (s) (32) (2) (0) : St).code.length < 1000000 := by omega
  have hs2 : (putP (s) (32) (2) (0) : St).stack.length < 1000000 := by omega
  have hbn2 : n ≤ 700000 := hn
  have HC2 := Lib.hid (push_any 127 w2 B bb x2 (putP (s) (32) (2) (0)) hA2 hBB2 hs2)
  have HF2 := Lib.hid hf2
  have HK2 := Lib.hid hk2
  clear hA2 hf2 hk2 hBB2 hin2 hsz2 hc2 hs2 hbn2
  refine HC2.out.mono ?_
  rintro e3 w3 ⟨rfl, u3⟩
  have HU3 := Lib.hid (Upd.trans HF2.out HK2.out u3)
  have HI3 := Lib.hid (show Inv (pushP (putP (s) (32) (2) (0)) 127 : St) (n + 1 + 3) from HI2.out.push (by decide))
  clear u3 HC2 HF2 HK2 y0 y1 y2 y3 y4
  obtain ⟨y0, y1, y2, y3, y4⟩ := HBOX.out _ _ HU3.out
  go_wp2_with fail
  go_end0
  refine ⟨rfl, ?_⟩
  have hJ : doesP s ⟨kind, a, b, op⟩ = pushP (putP (s) (32) (2) (0)) 127 := by
    simp [doesP, hk, hp, kindAt]
  rw [← HJ.out, hJ]
  exact Upd.after HB0.out HU3.out
set_option maxRecDepth 100000 in
set_option maxHeartbeats 4000000 in
theorem does_5_3 (kind : Nat) (a b : Int) (op : Nat) (w : World) (B bb : Nat) (x : Px) (s : St) (n : Nat) (hI : Inv s n) (hn : n ≤ 700000) (h : PAt w B bb x s) (hB : B ≤ w.heap.size) (hkd : kind < 256) (hop : op < 256) (hk : kind % 16 = 5) (hp : op % 4 = 3) :
    Calls Tryz.prog 14 #[.pointer (some ⟨bb, 0, none⟩), .agg #[.int .u8 (kind : Int), .int .i64 a, .int .i64 b, .int .u8 (op : Int)]] w fun e w' => e = .returned (.tuple #[]) ∧ Upd w B bb x (doesP s ⟨kind, a, b, op⟩) w' := by
  obtain ⟨J, hJ⟩ : ∃ J, doesP s ⟨kind, a, b, op⟩ = J := ⟨_, rfl⟩
  rw [hJ]
  have HJ := Lib.hid hJ
  clear hJ
  obtain ⟨w0, hw0⟩ : ∃ w0, w.alloc (.cells #[.int .u8 (kind : Int), .int .i64 a, .int .i64 b, .int .u8 (op : Int)] 62) = w0 := ⟨_, rfl⟩
  have B0 : Below w.heap.size w w0 := by rw [← hw0]; exact (Below.refl _ _).alloc (Nat.le_refl _) _
  have z0 : w.heap.size < w0.heap.size := by rw [← hw0]; simp
  have hbox : ∀ (s' : St) (wr : World), Upd w0 B bb x s' wr → wr.cell? ⟨w.heap.size, 0, none⟩ = some (.int .u8 (kind : Int)) ∧ wr.cell? ⟨w.heap.size, 1, none⟩ = some (.int .i64 a) ∧ wr.cell? ⟨w.heap.size, 2, none⟩ = some (.int .i64 b) ∧ wr.cell? ⟨w.heap.size, 3, none⟩ = some (.int .u8 (op : Int)) ∧ w.heap.size < wr.heap.size := fun s' wr u => by
    rw [← hw0] at u
    exact ⟨Upd.box h u (by simp), Upd.box h u (by simp), Upd.box h u (by simp), Upd.box h u (by simp), by have := u.size; simp at this; omega⟩
  have HBOX := Lib.hid hbox
  have HB0 := Lib.hid B0
  have HI0 := Lib.hid hI
  have HU0 := Lib.hid (Upd.same (h.later B0))
  have HW := Lib.hid hw0
  obtain ⟨y0, y1, y2, y3, y4⟩ := hbox _ _ HU0.out
  have HH := Lib.hid h
  clear hbox h hI B0 hw0
  have hki : (kind : Int) % 16 = 5 := by omega
  have hpi : (op : Int) % 4 = 3 := by omega
  have hp2 : (op : Int) % 2 = 1 := by omega
  go_enter Tryz.func14, Tryz.ntmps14
  have hw0 := HW.out
  go_upto_region 1 with fail
  clear hw0
  go_wp2_with fail
  obtain ⟨x0, hA0, hf0, hk0⟩ := HU0.out
  have hBB0 : B ≤ w0.heap.size := Nat.le_trans hB (by have := hk0.size; omega)
  have hin0 := HI0.out
  have hsz0 := hin0.size
  have hc0 : (s : St).code.length < 1000000 := by omega
  have hs0 : (s : St).stack.length < 1000000 := by omega
  have hbn0 : n ≤ 700000 := hn
  have HC0 := Lib.hid (put_any (32) (3) (0) w0 B bb x0 (s) hA0 hBB0 hc0)
  have HF0 := Lib.hid hf0
  have HK0 := Lib.hid hk0
  clear hA0 hf0 hk0 hBB0 hin0 hsz0 hc0 hs0 hbn0
  refine HC0.out.mono ?_
  rintro e1 w1 ⟨rfl, u1⟩
  have HU1 := Lib.hid (Upd.trans HF0.out HK0.out u1)
  have HI1 := Lib.hid (show Inv (putP (s) (32) (3) (0) : St) (n + 1) from HI0.out.put _ _ _)
  clear u1 HC0 HF0 HK0 y0 y1 y2 y3 y4
  obtain ⟨y0, y1, y2, y3, y4⟩ := HBOX.out _ _ HU1.out
  go_wp2_with fail
  obtain ⟨w2, hw2⟩ : ∃ W, w1.alloc (.cells #[.int .u8 126, .int .u8 127, .int .u8 127, .int .u8 126] 5) = W := ⟨_, rfl⟩
  have HU2 := Lib.hid (show Upd w0 B bb x (putP (s) (32) (3) (0)) w2 by rw [← hw2]; exact HU1.out.then_ ((Below.refl _ _).alloc (Nat.le_refl _) _))
  have HI2 := Lib.hid HI1.out
  rw [hw2]
  clear hw2 y0 y1 y2 y3 y4
  obtain ⟨y0, y1, y2, y3, y4⟩ := HBOX.out _ _ HU2.out
  obtain ⟨x2, hA2, hf2, hk2⟩ := HU2.out
  have hBB2 : B ≤ w2.heap.size := by have := hk2.size; omega
  have hin2 := HI2.out
  have hsz2 := hin2.size
  have hc2 : (putP (s) (32) (3) (0) : St).code.length < 1000000 := by omega
  have hs2 : (putP (s) (32) (3) (0) : St).stack.length < 1000000 := by omega
  have hbn2 : n ≤ 700000 := hn
  have HC2 := Lib.hid (push_any 126 w2 B bb x2 (putP (s) (32) (3) (0)) hA2 hBB2 hs2)
  have HF2 := Lib.hid hf2
  have HK2 := Lib.hid hk2
  clear hA2 hf2 hk2 hBB2 hin2 hsz2 hc2 hs2 hbn2
  refine HC2.out.mono ?_
  rintro e3 w3 ⟨rfl, u3⟩
  have HU3 := Lib.hid (Upd.trans HF2.out HK2.out u3)
  have HI3 := Lib.hid (show Inv (pushP (putP (s) (32) (3) (0)) 126 : St) (n + 1 + 3) from HI2.out.push (by decide))
  clear u3 HC2 HF2 HK2 y0 y1 y2 y3 y4
  obtain ⟨y0, y1, y2, y3, y4⟩ := HBOX.out _ _ HU3.out
  go_wp2_with fail
  go_end0
  refine ⟨rfl, ?_⟩
  have hJ : doesP s ⟨kind, a, b, op⟩ = pushP (putP (s) (32) (3) (0)) 126 := by
    simp [doesP, hk, hp, kindAt]
  rw [← HJ.out, hJ]
  exact Upd.after HB0.out HU3.out
set_option maxRecDepth 100000 in
set_option maxHeartbeats 4000000 in
theorem does_6_0 (kind : Nat) (a b : Int) (op : Nat) (w : World) (B bb : Nat) (x : Px) (s : St) (n : Nat) (hI : Inv s n) (hn : n ≤ 700000) (h : PAt w B bb x s) (hB : B ≤ w.heap.size) (hkd : kind < 256) (hop : op < 256) (hk : kind % 16 = 6) (hp : op % 4 = 0) :
    Calls Tryz.prog 14 #[.pointer (some ⟨bb, 0, none⟩), .agg #[.int .u8 (kind : Int), .int .i64 a, .int .i64 b, .int .u8 (op : Int)]] w fun e w' => e = .returned (.tuple #[]) ∧ Upd w B bb x (doesP s ⟨kind, a, b, op⟩) w' := by
  obtain ⟨J, hJ⟩ : ∃ J, doesP s ⟨kind, a, b, op⟩ = J := ⟨_, rfl⟩
  rw [hJ]
  have HJ := Lib.hid hJ
  clear hJ
  obtain ⟨w0, hw0⟩ : ∃ w0, w.alloc (.cells #[.int .u8 (kind : Int), .int .i64 a, .int .i64 b, .int .u8 (op : Int)] 62) = w0 := ⟨_, rfl⟩
  have B0 : Below w.heap.size w w0 := by rw [← hw0]; exact (Below.refl _ _).alloc (Nat.le_refl _) _
  have z0 : w.heap.size < w0.heap.size := by rw [← hw0]; simp
  have hbox : ∀ (s' : St) (wr : World), Upd w0 B bb x s' wr → wr.cell? ⟨w.heap.size, 0, none⟩ = some (.int .u8 (kind : Int)) ∧ wr.cell? ⟨w.heap.size, 1, none⟩ = some (.int .i64 a) ∧ wr.cell? ⟨w.heap.size, 2, none⟩ = some (.int .i64 b) ∧ wr.cell? ⟨w.heap.size, 3, none⟩ = some (.int .u8 (op : Int)) ∧ w.heap.size < wr.heap.size := fun s' wr u => by
    rw [← hw0] at u
    exact ⟨Upd.box h u (by simp), Upd.box h u (by simp), Upd.box h u (by simp), Upd.box h u (by simp), by have := u.size; simp at this; omega⟩
  have HBOX := Lib.hid hbox
  have HB0 := Lib.hid B0
  have HI0 := Lib.hid hI
  have HU0 := Lib.hid (Upd.same (h.later B0))
  have HW := Lib.hid hw0
  obtain ⟨y0, y1, y2, y3, y4⟩ := hbox _ _ HU0.out
  have HH := Lib.hid h
  clear hbox h hI B0 hw0
  have hki : (kind : Int) % 16 = 6 := by omega
  have hpi : (op : Int) % 4 = 0 := by omega
  have hp2 : (op : Int) % 2 = 0 := by omega
  have hk2 : (kind : Int) % 2 = 0 := by omega
  go_enter Tryz.func14, Tryz.ntmps14
  have hw0 := HW.out
  go_upto_region 1 with fail
  clear hw0
  go_wp2_with fail
  obtain ⟨w1, hw1⟩ : ∃ W, w0.alloc (.cells #[.int .u8 126, .int .u8 127, .int .u8 127, .int .u8 126] 5) = W := ⟨_, rfl⟩
  have HU1 := Lib.hid (show Upd w0 B bb x (s) w1 by rw [← hw1]; exact HU0.out.then_ ((Below.refl _ _).alloc (Nat.le_refl _) _))
  have HI1 := Lib.hid HI0.out
  rw [hw1]
  clear hw1 y0 y1 y2 y3 y4
  obtain ⟨y0, y1, y2, y3, y4⟩ := HBOX.out _ _ HU1.out
  have HP2 := Lib.hid (has_want HI1.out 126)
  obtain ⟨x1, hA1, hf1, hk1⟩ := HU1.out
  have hBB1 : B ≤ w1.heap.size := by have := hk1.size; omega
  have hin1 := HI1.out
  have hsz1 := hin1.size
  have hc1 : (s : St).code.length < 1000000 := by omega
  have hs1 : (s : St).stack.length < 1000000 := by omega
  have hbn1 : n ≤ 700000 := hn
  have HC1 := Lib.hid (want_any 126 w1 B bb x1 _ _ hin1 (by omega) hA1 hBB1 (by decide))
  have HF1 := Lib.hid hf1
  have HK1 := Lib.hid hk1
  clear hA1 hf1 hk1 hBB1 hin1 hsz1 hc1 hs1 hbn1
  refine HC1.out.mono ?_
  rintro e2 w2 ⟨rfl, u2⟩
  have HU2 := Lib.hid (Upd.trans HF1.out HK1.out u2)
  have HI2 := Lib.hid (show Inv (wantP (s) 126 : St) (n + 4) from HI1.out.want (by decide))
  clear u2 HC1 HF1 HK1 y0 y1 y2 y3 y4
  obtain ⟨y0, y1, y2, y3, y4⟩ := HBOX.out _ _ HU2.out
  go_wp2_with fail
  obtain ⟨x2, hA2, hf2, hk2⟩ := HU2.out
  have hBB2 : B ≤ w2.heap.size := by have := hk2.size; omega
  have hin2 := HI2.out
  have hsz2 := hin2.size
  have hc2 : (wantP (s) 126 : St).code.length < 1000000 := by omega
  have hs2 : (wantP (s) 126 : St).stack.length < 1000000 := by omega
  have hbn2 : n ≤ 700000 := hn
  have HC2 := Lib.hid (put_any (33) (0) (0) w2 B bb x2 (wantP (s) 126) hA2 hBB2 hc2)
  have HF2 := Lib.hid hf2
  have HK2 := Lib.hid hk2
  clear hA2 hf2 hk2 hBB2 hin2 hsz2 hc2 hs2 hbn2
  refine HC2.out.mono ?_
  rintro e3 w3 ⟨rfl, u3⟩
  have HU3 := Lib.hid (Upd.trans HF2.out HK2.out u3)
  have HI3 := Lib.hid (show Inv (putP (wantP (s) 126) (33) (0) (0) : St) (n + 4 + 1) from HI2.out.put _ _ _)
  clear u3 HC2 HF2 HK2 y0 y1 y2 y3 y4
  obtain ⟨y0, y1, y2, y3, y4⟩ := HBOX.out _ _ HU3.out
  go_wp2_with fail
  obtain ⟨x3, hA3, hf3, hk3⟩ := HU3.out
  have hBB3 : B ≤ w3.heap.size := by have := hk3.size; omega
  have hin3 := HI3.out
  have hsz3 := hin3.size
  have hc3 : (putP (wantP (s) 126) (33) (0) (0) : St).code.length < 1000000 := by omega
  have hs3 : (putP (wantP (s) 126) (33) (0) (0) : St).stack.length < 1000000 := by omega
  have hbn3 : n ≤ 700000 := hn
  have HC3 := Lib.hid (take_any w3 B bb x3 (putP (wantP (s) 126) (33) (0) (0)) hA3 hs3 (by have := HP2.out; unfold hasP at this; show 0 < _; exact Nat.lt_of_lt_of_le this (Nat.sub_le _ _)))
  have HF3 := Lib.hid hf3
  have HK3 := Lib.hid hk3
  clear hA3 hf3 hk3 hBB3 hin3 hsz3 hc3 hs3 hbn3
  refine HC3.out.mono ?_
  rintro e4 w4 ⟨rfl, u4⟩
  have HU4 := Lib.hid (Upd.trans HF3.out HK3.out u4)
  have HI4 := Lib.hid (show Inv (takeP (putP (wantP (s) 126) (33) (0) (0)) : St) (n + 4 + 1) from HI3.out.take HP2.out)
  clear u4 HC3 HF3 HK3 y0 y1 y2 y3 y4
  obtain ⟨y0, y1, y2, y3, y4⟩ := HBOX.out _ _ HU4.out
  go_wp2_with fail
  go_end0
  refine ⟨rfl, ?_⟩
  have hJ : doesP s ⟨kind, a, b, op⟩ = takeP (putP (wantP (s) 126) (33) (0) (0)) := by
    simp [doesP, hk, hp, kindAt]
  rw [← HJ.out, hJ]
  exact Upd.after HB0.out HU4.out
set_option maxRecDepth 100000 in
set_option maxHeartbeats 4000000 in
theorem does_6_1 (kind : Nat) (a b : Int) (op : Nat) (w : World) (B bb : Nat) (x : Px) (s : St) (n : Nat) (hI : Inv s n) (hn : n ≤ 700000) (h : PAt w B bb x s) (hB : B ≤ w.heap.size) (hkd : kind < 256) (hop : op < 256) (hk : kind % 16 = 6) (hp : op % 4 = 1) :
    Calls Tryz.prog 14 #[.pointer (some ⟨bb, 0, none⟩), .agg #[.int .u8 (kind : Int), .int .i64 a, .int .i64 b, .int .u8 (op : Int)]] w fun e w' => e = .returned (.tuple #[]) ∧ Upd w B bb x (doesP s ⟨kind, a, b, op⟩) w' := by
  obtain ⟨J, hJ⟩ : ∃ J, doesP s ⟨kind, a, b, op⟩ = J := ⟨_, rfl⟩
  rw [hJ]
  have HJ := Lib.hid hJ
  clear hJ
  obtain ⟨w0, hw0⟩ : ∃ w0, w.alloc (.cells #[.int .u8 (kind : Int), .int .i64 a, .int .i64 b, .int .u8 (op : Int)] 62) = w0 := ⟨_, rfl⟩
  have B0 : Below w.heap.size w w0 := by rw [← hw0]; exact (Below.refl _ _).alloc (Nat.le_refl _) _
  have z0 : w.heap.size < w0.heap.size := by rw [← hw0]; simp
  have hbox : ∀ (s' : St) (wr : World), Upd w0 B bb x s' wr → wr.cell? ⟨w.heap.size, 0, none⟩ = some (.int .u8 (kind : Int)) ∧ wr.cell? ⟨w.heap.size, 1, none⟩ = some (.int .i64 a) ∧ wr.cell? ⟨w.heap.size, 2, none⟩ = some (.int .i64 b) ∧ wr.cell? ⟨w.heap.size, 3, none⟩ = some (.int .u8 (op : Int)) ∧ w.heap.size < wr.heap.size := fun s' wr u => by
    rw [← hw0] at u
    exact ⟨Upd.box h u (by simp), Upd.box h u (by simp), Upd.box h u (by simp), Upd.box h u (by simp), by have := u.size; simp at this; omega⟩
  have HBOX := Lib.hid hbox
  have HB0 := Lib.hid B0
  have HI0 := Lib.hid hI
  have HU0 := Lib.hid (Upd.same (h.later B0))
  have HW := Lib.hid hw0
  obtain ⟨y0, y1, y2, y3, y4⟩ := hbox _ _ HU0.out
  have HH := Lib.hid h
  clear hbox h hI B0 hw0
  have hki : (kind : Int) % 16 = 6 := by omega
  have hpi : (op : Int) % 4 = 1 := by omega
  have hp2 : (op : Int) % 2 = 1 := by omega
  have hk2 : (kind : Int) % 2 = 0 := by omega
  go_enter Tryz.func14, Tryz.ntmps14
  have hw0 := HW.out
  go_upto_region 1 with fail
  clear hw0
  go_wp2_with fail
  obtain ⟨w1, hw1⟩ : ∃ W, w0.alloc (.cells #[.int .u8 126, .int .u8 127, .int .u8 127, .int .u8 126] 5) = W := ⟨_, rfl⟩
  have HU1 := Lib.hid (show Upd w0 B bb x (s) w1 by rw [← hw1]; exact HU0.out.then_ ((Below.refl _ _).alloc (Nat.le_refl _) _))
  have HI1 := Lib.hid HI0.out
  rw [hw1]
  clear hw1 y0 y1 y2 y3 y4
  obtain ⟨y0, y1, y2, y3, y4⟩ := HBOX.out _ _ HU1.out
  have HP2 := Lib.hid (has_want HI1.out 127)
  obtain ⟨x1, hA1, hf1, hk1⟩ := HU1.out
  have hBB1 : B ≤ w1.heap.size := by have := hk1.size; omega
  have hin1 := HI1.out
  have hsz1 := hin1.size
  have hc1 : (s : St).code.length < 1000000 := by omega
  have hs1 : (s : St).stack.length < 1000000 := by omega
  have hbn1 : n ≤ 700000 := hn
  have HC1 := Lib.hid (want_any 127 w1 B bb x1 _ _ hin1 (by omega) hA1 hBB1 (by decide))
  have HF1 := Lib.hid hf1
  have HK1 := Lib.hid hk1
  clear hA1 hf1 hk1 hBB1 hin1 hsz1 hc1 hs1 hbn1
  refine HC1.out.mono ?_
  rintro e2 w2 ⟨rfl, u2⟩
  have HU2 := Lib.hid (Upd.trans HF1.out HK1.out u2)
  have HI2 := Lib.hid (show Inv (wantP (s) 127 : St) (n + 4) from HI1.out.want (by decide))
  clear u2 HC1 HF1 HK1 y0 y1 y2 y3 y4
  obtain ⟨y0, y1, y2, y3, y4⟩ := HBOX.out _ _ HU2.out
  go_wp2_with fail
  obtain ⟨x2, hA2, hf2, hk2⟩ := HU2.out
  have hBB2 : B ≤ w2.heap.size := by have := hk2.size; omega
  have hin2 := HI2.out
  have hsz2 := hin2.size
  have hc2 : (wantP (s) 127 : St).code.length < 1000000 := by omega
  have hs2 : (wantP (s) 127 : St).stack.length < 1000000 := by omega
  have hbn2 : n ≤ 700000 := hn
  have HC2 := Lib.hid (put_any (33) (1) (0) w2 B bb x2 (wantP (s) 127) hA2 hBB2 hc2)
  have HF2 := Lib.hid hf2
  have HK2 := Lib.hid hk2
  clear hA2 hf2 hk2 hBB2 hin2 hsz2 hc2 hs2 hbn2
  refine HC2.out.mono ?_
  rintro e3 w3 ⟨rfl, u3⟩
  have HU3 := Lib.hid (Upd.trans HF2.out HK2.out u3)
  have HI3 := Lib.hid (show Inv (putP (wantP (s) 127) (33) (1) (0) : St) (n + 4 + 1) from HI2.out.put _ _ _)
  clear u3 HC2 HF2 HK2 y0 y1 y2 y3 y4
  obtain ⟨y0, y1, y2, y3, y4⟩ := HBOX.out _ _ HU3.out
  go_wp2_with fail
  obtain ⟨x3, hA3, hf3, hk3⟩ := HU3.out
  have hBB3 : B ≤ w3.heap.size := by have := hk3.size; omega
  have hin3 := HI3.out
  have hsz3 := hin3.size
  have hc3 : (putP (wantP (s) 127) (33) (1) (0) : St).code.length < 1000000 := by omega
  have hs3 : (putP (wantP (s) 127) (33) (1) (0) : St).stack.length < 1000000 := by omega
  have hbn3 : n ≤ 700000 := hn
  have HC3 := Lib.hid (take_any w3 B bb x3 (putP (wantP (s) 127) (33) (1) (0)) hA3 hs3 (by have := HP2.out; unfold hasP at this; show 0 < _; exact Nat.lt_of_lt_of_le this (Nat.sub_le _ _)))
  have HF3 := Lib.hid hf3
  have HK3 := Lib.hid hk3
  clear hA3 hf3 hk3 hBB3 hin3 hsz3 hc3 hs3 hbn3
  refine HC3.out.mono ?_
  rintro e4 w4 ⟨rfl, u4⟩
  have HU4 := Lib.hid (Upd.trans HF3.out HK3.out u4)
  have HI4 := Lib.hid (show Inv (takeP (putP (wantP (s) 127) (33) (1) (0)) : St) (n + 4 + 1) from HI3.out.take HP2.out)
  clear u4 HC3 HF3 HK3 y0 y1 y2 y3 y4
  obtain ⟨y0, y1, y2, y3, y4⟩ := HBOX.out _ _ HU4.out
  go_wp2_with fail
  go_end0
  refine ⟨rfl, ?_⟩
  have hJ : doesP s ⟨kind, a, b, op⟩ = takeP (putP (wantP (s) 127) (33) (1) (0)) := by
    simp [doesP, hk, hp, kindAt]
  rw [← HJ.out, hJ]
  exact Upd.after HB0.out HU4.out
set_option maxRecDepth 100000 in
set_option maxHeartbeats 4000000 in
theorem does_6_2 (kind : Nat) (a b : Int) (op : Nat) (w : World) (B bb : Nat) (x : Px) (s : St) (n : Nat) (hI : Inv s n) (hn : n ≤ 700000) (h : PAt w B bb x s) (hB : B ≤ w.heap.size) (hkd : kind < 256) (hop : op < 256) (hk : kind % 16 = 6) (hp : op % 4 = 2) :
    Calls Tryz.prog 14 #[.pointer (some ⟨bb, 0, none⟩), .agg #[.int .u8 (kind : Int), .int .i64 a, .int .i64 b, .int .u8 (op : Int)]] w fun e w' => e = .returned (.tuple #[]) ∧ Upd w B bb x (doesP s ⟨kind, a, b, op⟩) w' := by
  obtain ⟨J, hJ⟩ : ∃ J, doesP s ⟨kind, a, b, op⟩ = J := ⟨_, rfl⟩
  rw [hJ]
  have HJ := Lib.hid hJ
  clear hJ
  obtain ⟨w0, hw0⟩ : ∃ w0, w.alloc (.cells #[.int .u8 (kind : Int), .int .i64 a, .int .i64 b, .int .u8 (op : Int)] 62) = w0 := ⟨_, rfl⟩
  have B0 : Below w.heap.size w w0 := by rw [← hw0]; exact (Below.refl _ _).alloc (Nat.le_refl _) _
  have z0 : w.heap.size < w0.heap.size := by rw [← hw0]; simp
  have hbox : ∀ (s' : St) (wr : World), Upd w0 B bb x s' wr → wr.cell? ⟨w.heap.size, 0, none⟩ = some (.int .u8 (kind : Int)) ∧ wr.cell? ⟨w.heap.size, 1, none⟩ = some (.int .i64 a) ∧ wr.cell? ⟨w.heap.size, 2, none⟩ = some (.int .i64 b) ∧ wr.cell? ⟨w.heap.size, 3, none⟩ = some (.int .u8 (op : Int)) ∧ w.heap.size < wr.heap.size := fun s' wr u => by
    rw [← hw0] at u
    exact ⟨Upd.box h u (by simp), Upd.box h u (by simp), Upd.box h u (by simp), Upd.box h u (by simp), by have := u.size; simp at this; omega⟩
  have HBOX := Lib.hid hbox
  have HB0 := Lib.hid B0
  have HI0 := Lib.hid hI
  have HU0 := Lib.hid (Upd.same (h.later B0))
  have HW := Lib.hid hw0
  obtain ⟨y0, y1, y2, y3, y4⟩ := hbox _ _ HU0.out
  have HH := Lib.hid h
  clear hbox h hI B0 hw0
  have hki : (kind : Int) % 16 = 6 := by omega
  have hpi : (op : Int) % 4 = 2 := by omega
  have hp2 : (op : Int) % 2 = 0 := by omega
  have hk2 : (kind : Int) % 2 = 0 := by omega
  go_enter Tryz.func14, Tryz.ntmps14
  have hw0 := HW.out
  go_upto_region 1 with fail
  clear hw0
  go_wp2_with fail
  obtain ⟨w1, hw1⟩ : ∃ W, w0.alloc (.cells #[.int .u8 126, .int .u8 127, .int .u8 127, .int .u8 126] 5) = W := ⟨_, rfl⟩
  have HU1 := Lib.hid (show Upd w0 B bb x (s) w1 by rw [← hw1]; exact HU0.out.then_ ((Below.refl _ _).alloc (Nat.le_refl _) _))
  have HI1 := Lib.hid HI0.out
  rw [hw1]
  clear hw1 y0 y1 y2 y3 y4
  obtain ⟨y0, y1, y2, y3, y4⟩ := HBOX.out _ _ HU1.out
  have HP2 := Lib.hid (has_want HI1.out 127)
  obtain ⟨x1, hA1, hf1, hk1⟩ := HU1.out
  have hBB1 : B ≤ w1.heap.size := by have := hk1.size; omega
  have hin1 := HI1.out
  have hsz1 := hin1.size
  have hc1 : (s : St).code.length < 1000000 := by omega
  have hs1 : (s : St).stack.length < 1000000 := by omega
  have hbn1 : n ≤ 700000 := hn
  have HC1 := Lib.hid (want_any 127 w1 B bb x1 _ _ hin1 (by omega) hA1 hBB1 (by decide))
  have HF1 := Lib.hid hf1
  have HK1 := Lib.hid hk1
  clear hA1 hf1 hk1 hBB1 hin1 hsz1 hc1 hs1 hbn1
  refine HC1.out.mono ?_
  rintro e2 w2 ⟨rfl, u2⟩
  have HU2 := Lib.hid (Upd.trans HF1.out HK1.out u2)
  have HI2 := Lib.hid (show Inv (wantP (s) 127 : St) (n + 4) from HI1.out.want (by decide))
  clear u2 HC1 HF1 HK1 y0 y1 y2 y3 y4
  obtain ⟨y0, y1, y2, y3, y4⟩ := HBOX.out _ _ HU2.out
  go_wp2_with fail
  obtain ⟨x2, hA2, hf2, hk2⟩ := HU2.out
  have hBB2 : B ≤ w2.heap.size := by have := hk2.size; omega
  have hin2 := HI2.out
  have hsz2 := hin2.size
  have hc2 : (wantP (s) 127 : St).code.length < 1000000 := by omega
  have hs2 : (wantP (s) 127 : St).stack.length < 1000000 := by omega
  have hbn2 : n ≤ 700000 := hn
  have HC2 := Lib.hid (put_any (33) (2) (0) w2 B bb x2 (wantP (s) 127) hA2 hBB2 hc2)
  have HF2 := Lib.hid hf2
  have HK2 := Lib.hid hk2
  clear hA2 hf2 hk2 hBB2 hin2 hsz2 hc2 hs2 hbn2
  refine HC2.out.mono ?_
  rintro e3 w3 ⟨rfl, u3⟩
  have HU3 := Lib.hid (Upd.trans HF2.out HK2.out u3)
  have HI3 := Lib.hid (show Inv (putP (wantP (s) 127) (33) (2) (0) : St) (n + 4 + 1) from HI2.out.put _ _ _)
  clear u3 HC2 HF2 HK2 y0 y1 y2 y3 y4
  obtain ⟨y0, y1, y2, y3, y4⟩ := HBOX.out _ _ HU3.out
  go_wp2_with fail
  obtain ⟨x3, hA3, hf3, hk3⟩ := HU3.out
  have hBB3 : B ≤ w3.heap.size := by have := hk3.size; omega
  have hin3 := HI3.out
  have hsz3 := hin3.size
  have hc3 : (putP (wantP (s) 127) (33) (2) (0) : St).code.length < 1000000 := by omega
  have hs3 : (putP (wantP (s) 127) (33) (2) (0) : St).stack.length < 1000000 := by omega
  have hbn3 : n ≤ 700000 := hn
  have HC3 := Lib.hid (take_any w3 B bb x3 (putP (wantP (s) 127) (33) (2) (0)) hA3 hs3 (by have := HP2.out; unfold hasP at this; show 0 < _; exact Nat.lt_of_lt_of_le this (Nat.sub_le _ _)))
  have HF3 := Lib.hid hf3
  have HK3 := Lib.hid hk3
  clear hA3 hf3 hk3 hBB3 hin3 hsz3 hc3 hs3 hbn3
  refine HC3.out.mono ?_
  rintro e4 w4 ⟨rfl, u4⟩
  have HU4 := Lib.hid (Upd.trans HF3.out HK3.out u4)
  have HI4 := Lib.hid (show Inv (takeP (putP (wantP (s) 127) (33) (2) (0)) : St) (n + 4 + 1) from HI3.out.take HP2.out)
  clear u4 HC3 HF3 HK3 y0 y1 y2 y3 y4
  obtain ⟨y0, y1, y2, y3, y4⟩ := HBOX.out _ _ HU4.out
  go_wp2_with fail
  go_end0
  refine ⟨rfl, ?_⟩
  have hJ : doesP s ⟨kind, a, b, op⟩ = takeP (putP (wantP (s) 127) (33) (2) (0)) := by
    simp [doesP, hk, hp, kindAt]
  rw [← HJ.out, hJ]
  exact Upd.after HB0.out HU4.out
set_option maxRecDepth 100000 in
set_option maxHeartbeats 4000000 in
theorem does_6_3 (kind : Nat) (a b : Int) (op : Nat) (w : World) (B bb : Nat) (x : Px) (s : St) (n : Nat) (hI : Inv s n) (hn : n ≤ 700000) (h : PAt w B bb x s) (hB : B ≤ w.heap.size) (hkd : kind < 256) (hop : op < 256) (hk : kind % 16 = 6) (hp : op % 4 = 3) :
    Calls Tryz.prog 14 #[.pointer (some ⟨bb, 0, none⟩), .agg #[.int .u8 (kind : Int), .int .i64 a, .int .i64 b, .int .u8 (op : Int)]] w fun e w' => e = .returned (.tuple #[]) ∧ Upd w B bb x (doesP s ⟨kind, a, b, op⟩) w' := by
  obtain ⟨J, hJ⟩ : ∃ J, doesP s ⟨kind, a, b, op⟩ = J := ⟨_, rfl⟩
  rw [hJ]
  have HJ := Lib.hid hJ
  clear hJ
  obtain ⟨w0, hw0⟩ : ∃ w0, w.alloc (.cells #[.int .u8 (kind : Int), .int .i64 a, .int .i64 b, .int .u8 (op : Int)] 62) = w0 := ⟨_, rfl⟩
  have B0 : Below w.heap.size w w0 := by rw [← hw0]; exact (Below.refl _ _).alloc (Nat.le_refl _) _
  have z0 : w.heap.size < w0.heap.size := by rw [← hw0]; simp
  have hbox : ∀ (s' : St) (wr : World), Upd w0 B bb x s' wr → wr.cell? ⟨w.heap.size, 0, none⟩ = some (.int .u8 (kind : Int)) ∧ wr.cell? ⟨w.heap.size, 1, none⟩ = some (.int .i64 a) ∧ wr.cell? ⟨w.heap.size, 2, none⟩ = some (.int .i64 b) ∧ wr.cell? ⟨w.heap.size, 3, none⟩ = some (.int .u8 (op : Int)) ∧ w.heap.size < wr.heap.size := fun s' wr u => by
    rw [← hw0] at u
    exact ⟨Upd.box h u (by simp), Upd.box h u (by simp), Upd.box h u (by simp), Upd.box h u (by simp), by have := u.size; simp at this; omega⟩
  have HBOX := Lib.hid hbox
  have HB0 := Lib.hid B0
  have HI0 := Lib.hid hI
  have HU0 := Lib.hid (Upd.same (h.later B0))
  have HW := Lib.hid hw0
  obtain ⟨y0, y1, y2, y3, y4⟩ := hbox _ _ HU0.out
  have HH := Lib.hid h
  clear hbox h hI B0 hw0
  have hki : (kind : Int) % 16 = 6 := by omega
  have hpi : (op : Int) % 4 = 3 := by omega
  have hp2 : (op : Int) % 2 = 1 := by omega
  have hk2 : (kind : Int) % 2 = 0 := by omega
  go_enter Tryz.func14, Tryz.ntmps14
  have hw0 := HW.out
  go_upto_region 1 with fail
  clear hw0
  go_wp2_with fail
  obtain ⟨w1, hw1⟩ : ∃ W, w0.alloc (.cells #[.int .u8 126, .int .u8 127, .int .u8 127, .int .u8 126] 5) = W := ⟨_, rfl⟩
  have HU1 := Lib.hid (show Upd w0 B bb x (s) w1 by rw [← hw1]; exact HU0.out.then_ ((Below.refl _ _).alloc (Nat.le_refl _) _))
  have HI1 := Lib.hid HI0.out
  rw [hw1]
  clear hw1 y0 y1 y2 y3 y4
  obtain ⟨y0, y1, y2, y3, y4⟩ := HBOX.out _ _ HU1.out
  have HP2 := Lib.hid (has_want HI1.out 126)
  obtain ⟨x1, hA1, hf1, hk1⟩ := HU1.out
  have hBB1 : B ≤ w1.heap.size := by have := hk1.size; omega
  have hin1 := HI1.out
  have hsz1 := hin1.size
  have hc1 : (s : St).code.length < 1000000 := by omega
  have hs1 : (s : St).stack.length < 1000000 := by omega
  have hbn1 : n ≤ 700000 := hn
  have HC1 := Lib.hid (want_any 126 w1 B bb x1 _ _ hin1 (by omega) hA1 hBB1 (by decide))
  have HF1 := Lib.hid hf1
  have HK1 := Lib.hid hk1
  clear hA1 hf1 hk1 hBB1 hin1 hsz1 hc1 hs1 hbn1
  refine HC1.out.mono ?_
  rintro e2 w2 ⟨rfl, u2⟩
  have HU2 := Lib.hid (Upd.trans HF1.out HK1.out u2)
  have HI2 := Lib.hid (show Inv (wantP (s) 126 : St) (n + 4) from HI1.out.want (by decide))
  clear u2 HC1 HF1 HK1 y0 y1 y2 y3 y4
  obtain ⟨y0, y1, y2, y3, y4⟩ := HBOX.out _ _ HU2.out
  go_wp2_with fail
  obtain ⟨x2, hA2, hf2, hk2⟩ := HU2.out
  have hBB2 : B ≤ w2.heap.size := by have := hk2.size; omega
  have hin2 := HI2.out
  have hsz2 := hin2.size
  have hc2 : (wantP (s) 126 : St).code.length < 1000000 := by omega
  have hs2 : (wantP (s) 126 : St).stack.length < 1000000 := by omega
  have hbn2 : n ≤ 700000 := hn
  have HC2 := Lib.hid (put_any (33) (3) (0) w2 B bb x2 (wantP (s) 126) hA2 hBB2 hc2)
  have HF2 := Lib.hid hf2
  have HK2 := Lib.hid hk2
  clear hA2 hf2 hk2 hBB2 hin2 hsz2 hc2 hs2 hbn2
  refine HC2.out.mono ?_
  rintro e3 w3 ⟨rfl, u3⟩
  have HU3 := Lib.hid (Upd.trans HF2.out HK2.out u3)
  have HI3 := Lib.hid (show Inv (putP (wantP (s) 126) (33) (3) (0) : St) (n + 4 + 1) from HI2.out.put _ _ _)
  clear u3 HC2 HF2 HK2 y0 y1 y2 y3 y4
  obtain ⟨y0, y1, y2, y3, y4⟩ := HBOX.out _ _ HU3.out
  go_wp2_with fail
  obtain ⟨x3, hA3, hf3, hk3⟩ := HU3.out
  have hBB3 : B ≤ w3.heap.size := by have := hk3.size; omega
  have hin3 := HI3.out
  have hsz3 := hin3.size
  have hc3 : (putP (wantP (s) 126) (33) (3) (0) : St).code.length < 1000000 := by omega
  have hs3 : (putP (wantP (s) 126) (33) (3) (0) : St).stack.length < 1000000 := by omega
  have hbn3 : n ≤ 700000 := hn
  have HC3 := Lib.hid (take_any w3 B bb x3 (putP (wantP (s) 126) (33) (3) (0)) hA3 hs3 (by have := HP2.out; unfold hasP at this; show 0 < _; exact Nat.lt_of_lt_of_le this (Nat.sub_le _ _)))
  have HF3 := Lib.hid hf3
  have HK3 := Lib.hid hk3
  clear hA3 hf3 hk3 hBB3 hin3 hsz3 hc3 hs3 hbn3
  refine HC3.out.mono ?_
  rintro e4 w4 ⟨rfl, u4⟩
  have HU4 := Lib.hid (Upd.trans HF3.out HK3.out u4)
  have HI4 := Lib.hid (show Inv (takeP (putP (wantP (s) 126) (33) (3) (0)) : St) (n + 4 + 1) from HI3.out.take HP2.out)
  clear u4 HC3 HF3 HK3 y0 y1 y2 y3 y4
  obtain ⟨y0, y1, y2, y3, y4⟩ := HBOX.out _ _ HU4.out
  go_wp2_with fail
  go_end0
  refine ⟨rfl, ?_⟩
  have hJ : doesP s ⟨kind, a, b, op⟩ = takeP (putP (wantP (s) 126) (33) (3) (0)) := by
    simp [doesP, hk, hp, kindAt]
  rw [← HJ.out, hJ]
  exact Upd.after HB0.out HU4.out
set_option maxRecDepth 100000 in
set_option maxHeartbeats 4000000 in
theorem does_7_0 (kind : Nat) (a b : Int) (op : Nat) (w : World) (B bb : Nat) (x : Px) (s : St) (n : Nat) (hI : Inv s n) (hn : n ≤ 700000) (h : PAt w B bb x s) (hB : B ≤ w.heap.size) (hkd : kind < 256) (hop : op < 256) (hk : kind % 16 = 7) (hp : op % 4 = 0) :
    Calls Tryz.prog 14 #[.pointer (some ⟨bb, 0, none⟩), .agg #[.int .u8 (kind : Int), .int .i64 a, .int .i64 b, .int .u8 (op : Int)]] w fun e w' => e = .returned (.tuple #[]) ∧ Upd w B bb x (doesP s ⟨kind, a, b, op⟩) w' := by
  obtain ⟨J, hJ⟩ : ∃ J, doesP s ⟨kind, a, b, op⟩ = J := ⟨_, rfl⟩
  rw [hJ]
  have HJ := Lib.hid hJ
  clear hJ
  obtain ⟨w0, hw0⟩ : ∃ w0, w.alloc (.cells #[.int .u8 (kind : Int), .int .i64 a, .int .i64 b, .int .u8 (op : Int)] 62) = w0 := ⟨_, rfl⟩
  have B0 : Below w.heap.size w w0 := by rw [← hw0]; exact (Below.refl _ _).alloc (Nat.le_refl _) _
  have z0 : w.heap.size < w0.heap.size := by rw [← hw0]; simp
  have hbox : ∀ (s' : St) (wr : World), Upd w0 B bb x s' wr → wr.cell? ⟨w.heap.size, 0, none⟩ = some (.int .u8 (kind : Int)) ∧ wr.cell? ⟨w.heap.size, 1, none⟩ = some (.int .i64 a) ∧ wr.cell? ⟨w.heap.size, 2, none⟩ = some (.int .i64 b) ∧ wr.cell? ⟨w.heap.size, 3, none⟩ = some (.int .u8 (op : Int)) ∧ w.heap.size < wr.heap.size := fun s' wr u => by
    rw [← hw0] at u
    exact ⟨Upd.box h u (by simp), Upd.box h u (by simp), Upd.box h u (by simp), Upd.box h u (by simp), by have := u.size; simp at this; omega⟩
  have HBOX := Lib.hid hbox
  have HB0 := Lib.hid B0
  have HI0 := Lib.hid hI
  have HU0 := Lib.hid (Upd.same (h.later B0))
  have HW := Lib.hid hw0
  obtain ⟨y0, y1, y2, y3, y4⟩ := hbox _ _ HU0.out
  have HH := Lib.hid h
  clear hbox h hI B0 hw0
  have hki : (kind : Int) % 16 = 7 := by omega
  have hpi : (op : Int) % 4 = 0 := by omega
  have hp2 : (op : Int) % 2 = 0 := by omega
  have hk2 : (kind : Int) % 2 = 1 := by omega
  go_enter Tryz.func14, Tryz.ntmps14
  have hw0 := HW.out
  go_upto_region 1 with fail
  clear hw0
  go_wp2_with fail
  obtain ⟨w1, hw1⟩ : ∃ W, w0.alloc (.cells #[.int .u8 126, .int .u8 127, .int .u8 127, .int .u8 126] 5) = W := ⟨_, rfl⟩
  have HU1 := Lib.hid (show Upd w0 B bb x (s) w1 by rw [← hw1]; exact HU0.out.then_ ((Below.refl _ _).alloc (Nat.le_refl _) _))
  have HI1 := Lib.hid HI0.out
  rw [hw1]
  clear hw1 y0 y1 y2 y3 y4
  obtain ⟨y0, y1, y2, y3, y4⟩ := HBOX.out _ _ HU1.out
  have HP2 := Lib.hid (has_want HI1.out 126)
  obtain ⟨x1, hA1, hf1, hk1⟩ := HU1.out
  have hBB1 : B ≤ w1.heap.size := by have := hk1.size; omega
  have hin1 := HI1.out
  have hsz1 := hin1.size
  have hc1 : (s : St).code.length < 1000000 := by omega
  have hs1 : (s : St).stack.length < 1000000 := by omega
  have hbn1 : n ≤ 700000 := hn
  have HC1 := Lib.hid (want_any 126 w1 B bb x1 _ _ hin1 (by omega) hA1 hBB1 (by decide))
  have HF1 := Lib.hid hf1
  have HK1 := Lib.hid hk1
  clear hA1 hf1 hk1 hBB1 hin1 hsz1 hc1 hs1 hbn1
  refine HC1.out.mono ?_
  rintro e2 w2 ⟨rfl, u2⟩
  have HU2 := Lib.hid (Upd.trans HF1.out HK1.out u2)
  have HI2 := Lib.hid (show Inv (wantP (s) 126 : St) (n + 4) from HI1.out.want (by decide))
  clear u2 HC1 HF1 HK1 y0 y1 y2 y3 y4
  obtain ⟨y0, y1, y2, y3, y4⟩ := HBOX.out _ _ HU2.out
  go_wp2_with fail
  obtain ⟨x2, hA2, hf2, hk2⟩ := HU2.out
  have hBB2 : B ≤ w2.heap.size := by have := hk2.size; omega
  have hin2 := HI2.out
  have hsz2 := hin2.size
  have hc2 : (wantP (s) 126 : St).code.length < 1000000 := by omega
  have hs2 : (wantP (s) 126 : St).stack.length < 1000000 := by omega
  have hbn2 : n ≤ 700000 := hn
  have HC2 := Lib.hid (put_any (34) (0) (0) w2 B bb x2 (wantP (s) 126) hA2 hBB2 hc2)
  have HF2 := Lib.hid hf2
  have HK2 := Lib.hid hk2
  clear hA2 hf2 hk2 hBB2 hin2 hsz2 hc2 hs2 hbn2
  refine HC2.out.mono ?_
  rintro e3 w3 ⟨rfl, u3⟩
  have HU3 := Lib.hid (Upd.trans HF2.out HK2.out u3)
  have HI3 := Lib.hid (show Inv (putP (wantP (s) 126) (34) (0) (0) : St) (n + 4 + 1) from HI2.out.put _ _ _)
  clear u3 HC2 HF2 HK2 y0 y1 y2 y3 y4
  obtain ⟨y0, y1, y2, y3, y4⟩ := HBOX.out _ _ HU3.out
  go_wp2_with fail
  go_end0
  refine ⟨rfl, ?_⟩
  have hJ : doesP s ⟨kind, a, b, op⟩ = putP (wantP (s) 126) (34) (0) (0) := by
    simp [doesP, hk, hp, kindAt]
  rw [← HJ.out, hJ]
  exact Upd.after HB0.out HU3.out
set_option maxRecDepth 100000 in
set_option maxHeartbeats 4000000 in
theorem does_7_1 (kind : Nat) (a b : Int) (op : Nat) (w : World) (B bb : Nat) (x : Px) (s : St) (n : Nat) (hI : Inv s n) (hn : n ≤ 700000) (h : PAt w B bb x s) (hB : B ≤ w.heap.size) (hkd : kind < 256) (hop : op < 256) (hk : kind % 16 = 7) (hp : op % 4 = 1) :
    Calls Tryz.prog 14 #[.pointer (some ⟨bb, 0, none⟩), .agg #[.int .u8 (kind : Int), .int .i64 a, .int .i64 b, .int .u8 (op : Int)]] w fun e w' => e = .returned (.tuple #[]) ∧ Upd w B bb x (doesP s ⟨kind, a, b, op⟩) w' := by
  obtain ⟨J, hJ⟩ : ∃ J, doesP s ⟨kind, a, b, op⟩ = J := ⟨_, rfl⟩
  rw [hJ]
  have HJ := Lib.hid hJ
  clear hJ
  obtain ⟨w0, hw0⟩ : ∃ w0, w.alloc (.cells #[.int .u8 (kind : Int), .int .i64 a, .int .i64 b, .int .u8 (op : Int)] 62) = w0 := ⟨_, rfl⟩
  have B0 : Below w.heap.size w w0 := by rw [← hw0]; exact (Below.refl _ _).alloc (Nat.le_refl _) _
  have z0 : w.heap.size < w0.heap.size := by rw [← hw0]; simp
  have hbox : ∀ (s' : St) (wr : World), Upd w0 B bb x s' wr → wr.cell? ⟨w.heap.size, 0, none⟩ = some (.int .u8 (kind : Int)) ∧ wr.cell? ⟨w.heap.size, 1, none⟩ = some (.int .i64 a) ∧ wr.cell? ⟨w.heap.size, 2, none⟩ = some (.int .i64 b) ∧ wr.cell? ⟨w.heap.size, 3, none⟩ = some (.int .u8 (op : Int)) ∧ w.heap.size < wr.heap.size := fun s' wr u => by
    rw [← hw0] at u
    exact ⟨Upd.box h u (by simp), Upd.box h u (by simp), Upd.box h u (by simp), Upd.box h u (by simp), by have := u.size; simp at this; omega⟩
  have HBOX := Lib.hid hbox
  have HB0 := Lib.hid B0
  have HI0 := Lib.hid hI
  have HU0 := Lib.hid (Upd.same (h.later B0))
  have HW := Lib.hid hw0
  obtain ⟨y0, y1, y2, y3, y4⟩ := hbox _ _ HU0.out
  have HH := Lib.hid h
  clear hbox h hI B0 hw0
  have hki : (kind : Int) % 16 = 7 := by omega
  have hpi : (op : Int) % 4 = 1 := by omega
  have hp2 : (op : Int) % 2 = 1 := by omega
  have hk2 : (kind : Int) % 2 = 1 := by omega
  go_enter Tryz.func14, Tryz.ntmps14
  have hw0 := HW.out
  go_upto_region 1 with fail
  clear hw0
  go_wp2_with fail
  obtain ⟨w1, hw1⟩ : ∃ W, w0.alloc (.cells #[.int .u8 126, .int .u8 127, .int .u8 127, .int .u8 126] 5) = W := ⟨_, rfl⟩
  have HU1 := Lib.hid (show Upd w0 B bb x (s) w1 by rw [← hw1]; exact HU0.out.then_ ((Below.refl _ _).alloc (Nat.le_refl _) _))
  have HI1 := Lib.hid HI0.out
  rw [hw1]
  clear hw1 y0 y1 y2 y3 y4
  obtain ⟨y0, y1, y2, y3, y4⟩ := HBOX.out _ _ HU1.out
  have HP2 := Lib.hid (has_want HI1.out 127)
  obtain ⟨x1, hA1, hf1, hk1⟩ := HU1.out
  have hBB1 : B ≤ w1.heap.size := by have := hk1.size; omega
  have hin1 := HI1.out
  have hsz1 := hin1.size
  have hc1 : (s : St).code.length < 1000000 := by omega
  have hs1 : (s : St).stack.length < 1000000 := by omega
  have hbn1 : n ≤ 700000 := hn
  have HC1 := Lib.hid (want_any 127 w1 B bb x1 _ _ hin1 (by omega) hA1 hBB1 (by decide))
  have HF1 := Lib.hid hf1
  have HK1 := Lib.hid hk1
  clear hA1 hf1 hk1 hBB1 hin1 hsz1 hc1 hs1 hbn1
  refine HC1.out.mono ?_
  rintro e2 w2 ⟨rfl, u2⟩
  have HU2 := Lib.hid (Upd.trans HF1.out HK1.out u2)
  have HI2 := Lib.hid (show Inv (wantP (s) 127 : St) (n + 4) from HI1.out.want (by decide))
  clear u2 HC1 HF1 HK1 y0 y1 y2 y3 y4
  obtain ⟨y0, y1, y2, y3, y4⟩ := HBOX.out _ _ HU2.out
  go_wp2_with fail
  obtain ⟨x2, hA2, hf2, hk2⟩ := HU2.out
  have hBB2 : B ≤ w2.heap.size := by have := hk2.size; omega
  have hin2 := HI2.out
  have hsz2 := hin2.size
  have hc2 : (wantP (s) 127 : St).code.length < 1000000 := by omega
  have hs2 : (wantP (s) 127 : St).stack.length < 1000000 := by omega
  have hbn2 : n ≤ 700000 := hn
  have HC2 := Lib.hid (put_any (34) (1) (0) w2 B bb x2 (wantP (s) 127) hA2 hBB2 hc2)
  have HF2 := Lib.hid hf2
  have HK2 := Lib.hid hk2
  clear hA2 hf2 hk2 hBB2 hin2 hsz2 hc2 hs2 hbn2
  refine HC2.out.mono ?_
  rintro e3 w3 ⟨rfl, u3⟩
  have HU3 := Lib.hid (Upd.trans HF2.out HK2.out u3)
  have HI3 := Lib.hid (show Inv (putP (wantP (s) 127) (34) (1) (0) : St) (n + 4 + 1) from HI2.out.put _ _ _)
  clear u3 HC2 HF2 HK2 y0 y1 y2 y3 y4
  obtain ⟨y0, y1, y2, y3, y4⟩ := HBOX.out _ _ HU3.out
  go_wp2_with fail
  go_end0
  refine ⟨rfl, ?_⟩
  have hJ : doesP s ⟨kind, a, b, op⟩ = putP (wantP (s) 127) (34) (1) (0) := by
    simp [doesP, hk, hp, kindAt]
  rw [← HJ.out, hJ]
  exact Upd.after HB0.out HU3.out
set_option maxRecDepth 100000 in
set_option maxHeartbeats 4000000 in
theorem does_7_2 (kind : Nat) (a b : Int) (op : Nat) (w : World) (B bb : Nat) (x : Px) (s : St) (n : Nat) (hI : Inv s n) (hn : n ≤ 700000) (h : PAt w B bb x s) (hB : B ≤ w.heap.size) (hkd : kind < 256) (hop : op < 256) (hk : kind % 16 = 7) (hp : op % 4 = 2) :
    Calls Tryz.prog 14 #[.pointer (some ⟨bb, 0, none⟩), .agg #[.int .u8 (kind : Int), .int .i64 a, .int .i64 b, .int .u8 (op : Int)]] w fun e w' => e = .returned (.tuple #[]) ∧ Upd w B bb x (doesP s ⟨kind, a, b, op⟩) w' := by
  obtain ⟨J, hJ⟩ : ∃ J, doesP s ⟨kind, a, b, op⟩ = J := ⟨_, rfl⟩
  rw [hJ]
  have HJ := Lib.hid hJ
  clear hJ
  obtain ⟨w0, hw0⟩ : ∃ w0, w.alloc (.cells #[.int .u8 (kind : Int), .int .i64 a, .int .i64 b, .int .u8 (op : Int)] 62) = w0 := ⟨_, rfl⟩
  have B0 : Below w.heap.size w w0 := by rw [← hw0]; exact (Below.refl _ _).alloc (Nat.le_refl _) _
  have z0 : w.heap.size < w0.heap.size := by rw [← hw0]; simp
  have hbox : ∀ (s' : St) (wr : World), Upd w0 B bb x s' wr → wr.cell? ⟨w.heap.size, 0, none⟩ = some (.int .u8 (kind : Int)) ∧ wr.cell? ⟨w.heap.size, 1, none⟩ = some (.int .i64 a) ∧ wr.cell? ⟨w.heap.size, 2, none⟩ = some (.int .i64 b) ∧ wr.cell? ⟨w.heap.size, 3, none⟩ = some (.int .u8 (op : Int)) ∧ w.heap.size < wr.heap.size := fun s' wr u => by
    rw [← hw0] at u
    exact ⟨Upd.box h u (by simp), Upd.box h u (by simp), Upd.box h u (by simp), Upd.box h u (by simp), by have := u.size; simp at this; omega⟩
  have HBOX := Lib.hid hbox
  have HB0 := Lib.hid B0
  have HI0 := Lib.hid hI
  have HU0 := Lib.hid (Upd.same (h.later B0))
  have HW := Lib.hid hw0
  obtain ⟨y0, y1, y2, y3, y4⟩ := hbox _ _ HU0.out
  have HH := Lib.hid h
  clear hbox h hI B0 hw0
  have hki : (kind : Int) % 16 = 7 := by omega
  have hpi : (op : Int) % 4 = 2 := by omega
  have hp2 : (op : Int) % 2 = 0 := by omega
  have hk2 : (kind : Int) % 2 = 1 := by omega
  go_enter Tryz.func14, Tryz.ntmps14
  have hw0 := HW.out
  go_upto_region 1 with fail
  clear hw0
  go_wp2_with fail
  obtain ⟨w1, hw1⟩ : ∃ W, w0.alloc (.cells #[.int .u8 126, .int .u8 127, .int .u8 127, .int .u8 126] 5) = W := ⟨_, rfl⟩
  have HU1 := Lib.hid (show Upd w0 B bb x (s) w1 by rw [← hw1]; exact HU0.out.then_ ((Below.refl _ _).alloc (Nat.le_refl _) _))
  have HI1 := Lib.hid HI0.out
  rw [hw1]
  clear hw1 y0 y1 y2 y3 y4
  obtain ⟨y0, y1, y2, y3, y4⟩ := HBOX.out _ _ HU1.out
  have HP2 := Lib.hid (has_want HI1.out 127)
  obtain ⟨x1, hA1, hf1, hk1⟩ := HU1.out
  have hBB1 : B ≤ w1.heap.size := by have := hk1.size; omega
  have hin1 := HI1.out
  have hsz1 := hin1.size
  have hc1 : (s : St).code.length < 1000000 := by omega
  have hs1 : (s : St).stack.length < 1000000 := by omega
  have hbn1 : n ≤ 700000 := hn
  have HC1 := Lib.hid (want_any 127 w1 B bb x1 _ _ hin1 (by omega) hA1 hBB1 (by decide))
  have HF1 := Lib.hid hf1
  have HK1 := Lib.hid hk1
  clear hA1 hf1 hk1 hBB1 hin1 hsz1 hc1 hs1 hbn1
  refine HC1.out.mono ?_
  rintro e2 w2 ⟨rfl, u2⟩
  have HU2 := Lib.hid (Upd.trans HF1.out HK1.out u2)
  have HI2 := Lib.hid (show Inv (wantP (s) 127 : St) (n + 4) from HI1.out.want (by decide))
  clear u2 HC1 HF1 HK1 y0 y1 y2 y3 y4
  obtain ⟨y0, y1, y2, y3, y4⟩ := HBOX.out _ _ HU2.out
  go_wp2_with fail
  obtain ⟨x2, hA2, hf2, hk2⟩ := HU2.out
  have hBB2 : B ≤ w2.heap.size := by have := hk2.size; omega
  have hin2 := HI2.out
  have hsz2 := hin2.size
  have hc2 : (wantP (s) 127 : St).code.length < 1000000 := by omega
  have hs2 : (wantP (s) 127 : St).stack.length < 1000000 := by omega
  have hbn2 : n ≤ 700000 := hn
  have HC2 := Lib.hid (put_any (34) (2) (0) w2 B bb x2 (wantP (s) 127) hA2 hBB2 hc2)
  have HF2 := Lib.hid hf2
  have HK2 := Lib.hid hk2
  clear hA2 hf2 hk2 hBB2 hin2 hsz2 hc2 hs2 hbn2
  refine HC2.out.mono ?_
  rintro e3 w3 ⟨rfl, u3⟩
  have HU3 := Lib.hid (Upd.trans HF2.out HK2.out u3)
  have HI3 := Lib.hid (show Inv (putP (wantP (s) 127) (34) (2) (0) : St) (n + 4 + 1) from HI2.out.put _ _ _)
  clear u3 HC2 HF2 HK2 y0 y1 y2 y3 y4
  obtain ⟨y0, y1, y2, y3, y4⟩ := HBOX.out _ _ HU3.out
  go_wp2_with fail
  go_end0
  refine ⟨rfl, ?_⟩
  have hJ : doesP s ⟨kind, a, b, op⟩ = putP (wantP (s) 127) (34) (2) (0) := by
    simp [doesP, hk, hp, kindAt]
  rw [← HJ.out, hJ]
  exact Upd.after HB0.out HU3.out
set_option maxRecDepth 100000 in
set_option maxHeartbeats 4000000 in
theorem does_7_3 (kind : Nat) (a b : Int) (op : Nat) (w : World) (B bb : Nat) (x : Px) (s : St) (n : Nat) (hI : Inv s n) (hn : n ≤ 700000) (h : PAt w B bb x s) (hB : B ≤ w.heap.size) (hkd : kind < 256) (hop : op < 256) (hk : kind % 16 = 7) (hp : op % 4 = 3) :
    Calls Tryz.prog 14 #[.pointer (some ⟨bb, 0, none⟩), .agg #[.int .u8 (kind : Int), .int .i64 a, .int .i64 b, .int .u8 (op : Int)]] w fun e w' => e = .returned (.tuple #[]) ∧ Upd w B bb x (doesP s ⟨kind, a, b, op⟩) w' := by
  obtain ⟨J, hJ⟩ : ∃ J, doesP s ⟨kind, a, b, op⟩ = J := ⟨_, rfl⟩
  rw [hJ]
  have HJ := Lib.hid hJ
  clear hJ
  obtain ⟨w0, hw0⟩ : ∃ w0, w.alloc (.cells #[.int .u8 (kind : Int), .int .i64 a, .int .i64 b, .int .u8 (op : Int)] 62) = w0 := ⟨_, rfl⟩
  have B0 : Below w.heap.size w w0 := by rw [← hw0]; exact (Below.refl _ _).alloc (Nat.le_refl _) _
  have z0 : w.heap.size < w0.heap.size := by rw [← hw0]; simp
  have hbox : ∀ (s' : St) (wr : World), Upd w0 B bb x s' wr → wr.cell? ⟨w.heap.size, 0, none⟩ = some (.int .u8 (kind : Int)) ∧ wr.cell? ⟨w.heap.size, 1, none⟩ = some (.int .i64 a) ∧ wr.cell? ⟨w.heap.size, 2, none⟩ = some (.int .i64 b) ∧ wr.cell? ⟨w.heap.size, 3, none⟩ = some (.int .u8 (op : Int)) ∧ w.heap.size < wr.heap.size := fun s' wr u => by
    rw [← hw0] at u
    exact ⟨Upd.box h u (by simp), Upd.box h u (by simp), Upd.box h u (by simp), Upd.box h u (by simp), by have := u.size; simp at this; omega⟩
  have HBOX := Lib.hid hbox
  have HB0 := Lib.hid B0
  have HI0 := Lib.hid hI
  have HU0 := Lib.hid (Upd.same (h.later B0))
  have HW := Lib.hid hw0
  obtain ⟨y0, y1, y2, y3, y4⟩ := hbox _ _ HU0.out
  have HH := Lib.hid h
  clear hbox h hI B0 hw0
  have hki : (kind : Int) % 16 = 7 := by omega
  have hpi : (op : Int) % 4 = 3 := by omega
  have hp2 : (op : Int) % 2 = 1 := by omega
  have hk2 : (kind : Int) % 2 = 1 := by omega
  go_enter Tryz.func14, Tryz.ntmps14
  have hw0 := HW.out
  go_upto_region 1 with fail
  clear hw0
  go_wp2_with fail
  obtain ⟨w1, hw1⟩ : ∃ W, w0.alloc (.cells #[.int .u8 126, .int .u8 127, .int .u8 127, .int .u8 126] 5) = W := ⟨_, rfl⟩
  have HU1 := Lib.hid (show Upd w0 B bb x (s) w1 by rw [← hw1]; exact HU0.out.then_ ((Below.refl _ _).alloc (Nat.le_refl _) _))
  have HI1 := Lib.hid HI0.out
  rw [hw1]
  clear hw1 y0 y1 y2 y3 y4
  obtain ⟨y0, y1, y2, y3, y4⟩ := HBOX.out _ _ HU1.out
  have HP2 := Lib.hid (has_want HI1.out 126)
  obtain ⟨x1, hA1, hf1, hk1⟩ := HU1.out
  have hBB1 : B ≤ w1.heap.size := by have := hk1.size; omega
  have hin1 := HI1.out
  have hsz1 := hin1.size
  have hc1 : (s : St).code.length < 1000000 := by omega
  have hs1 : (s : St).stack.length < 1000000 := by omega
  have hbn1 : n ≤ 700000 := hn
  have HC1 := Lib.hid (want_any 126 w1 B bb x1 _ _ hin1 (by omega) hA1 hBB1 (by decide))
  have HF1 := Lib.hid hf1
  have HK1 := Lib.hid hk1
  clear hA1 hf1 hk1 hBB1 hin1 hsz1 hc1 hs1 hbn1
  refine HC1.out.mono ?_
  rintro e2 w2 ⟨rfl, u2⟩
  have HU2 := Lib.hid (Upd.trans HF1.out HK1.out u2)
  have HI2 := Lib.hid (show Inv (wantP (s) 126 : St) (n + 4) from HI1.out.want (by decide))
  clear u2 HC1 HF1 HK1 y0 y1 y2 y3 y4
  obtain ⟨y0, y1, y2, y3, y4⟩ := HBOX.out _ _ HU2.out
  go_wp2_with fail
  obtain ⟨x2, hA2, hf2, hk2⟩ := HU2.out
  have hBB2 : B ≤ w2.heap.size := by have := hk2.size; omega
  have hin2 := HI2.out
  have hsz2 := hin2.size
  have hc2 : (wantP (s) 126 : St).code.length < 1000000 := by omega
  have hs2 : (wantP (s) 126 : St).stack.length < 1000000 := by omega
  have hbn2 : n ≤ 700000 := hn
  have HC2 := Lib.hid (put_any (34) (3) (0) w2 B bb x2 (wantP (s) 126) hA2 hBB2 hc2)
  have HF2 := Lib.hid hf2
  have HK2 := Lib.hid hk2
  clear hA2 hf2 hk2 hBB2 hin2 hsz2 hc2 hs2 hbn2
  refine HC2.out.mono ?_
  rintro e3 w3 ⟨rfl, u3⟩
  have HU3 := Lib.hid (Upd.trans HF2.out HK2.out u3)
  have HI3 := Lib.hid (show Inv (putP (wantP (s) 126) (34) (3) (0) : St) (n + 4 + 1) from HI2.out.put _ _ _)
  clear u3 HC2 HF2 HK2 y0 y1 y2 y3 y4
  obtain ⟨y0, y1, y2, y3, y4⟩ := HBOX.out _ _ HU3.out
  go_wp2_with fail
  go_end0
  refine ⟨rfl, ?_⟩
  have hJ : doesP s ⟨kind, a, b, op⟩ = putP (wantP (s) 126) (34) (3) (0) := by
    simp [doesP, hk, hp, kindAt]
  rw [← HJ.out, hJ]
  exact Upd.after HB0.out HU3.out
set_option maxRecDepth 100000 in
set_option maxHeartbeats 4000000 in
theorem does_8_0 (kind : Nat) (a b : Int) (op : Nat) (w : World) (B bb : Nat) (x : Px) (s : St) (n : Nat) (hI : Inv s n) (hn : n ≤ 700000) (h : PAt w B bb x s) (hB : B ≤ w.heap.size) (hkd : kind < 256) (hop : op < 256) (hk : kind % 16 = 8) (hp : op % 2 = 0) :
    Calls Tryz.prog 14 #[.pointer (some ⟨bb, 0, none⟩), .agg #[.int .u8 (kind : Int), .int .i64 a, .int .i64 b, .int .u8 (op : Int)]] w fun e w' => e = .returned (.tuple #[]) ∧ Upd w B bb x (doesP s ⟨kind, a, b, op⟩) w' := by
  obtain ⟨J, hJ⟩ : ∃ J, doesP s ⟨kind, a, b, op⟩ = J := ⟨_, rfl⟩
  rw [hJ]
  have HJ := Lib.hid hJ
  clear hJ
  obtain ⟨w0, hw0⟩ : ∃ w0, w.alloc (.cells #[.int .u8 (kind : Int), .int .i64 a, .int .i64 b, .int .u8 (op : Int)] 62) = w0 := ⟨_, rfl⟩
  have B0 : Below w.heap.size w w0 := by rw [← hw0]; exact (Below.refl _ _).alloc (Nat.le_refl _) _
  have z0 : w.heap.size < w0.heap.size := by rw [← hw0]; simp
  have hbox : ∀ (s' : St) (wr : World), Upd w0 B bb x s' wr → wr.cell? ⟨w.heap.size, 0, none⟩ = some (.int .u8 (kind : Int)) ∧ wr.cell? ⟨w.heap.size, 1, none⟩ = some (.int .i64 a) ∧ wr.cell? ⟨w.heap.size, 2, none⟩ = some (.int .i64 b) ∧ wr.cell? ⟨w.heap.size, 3, none⟩ = some (.int .u8 (op : Int)) ∧ w.heap.size < wr.heap.size := fun s' wr u => by
    rw [← hw0] at u
    exact ⟨Upd.box h u (by simp), Upd.box h u (by simp), Upd.box h u (by simp), Upd.box h u (by simp), by have := u.size; simp at this; omega⟩
  have HBOX := Lib.hid hbox
  have HB0 := Lib.hid B0
  have HI0 := Lib.hid hI
  have HU0 := Lib.hid (Upd.same (h.later B0))
  have HW := Lib.hid hw0
  obtain ⟨y0, y1, y2, y3, y4⟩ := hbox _ _ HU0.out
  have HH := Lib.hid h
  clear hbox h hI B0 hw0
  have hki : (kind : Int) % 16 = 8 := by omega
  have hpi : (op : Int) % 2 = 0 := by omega
  go_enter Tryz.func14, Tryz.ntmps14
  have hw0 := HW.out
  go_upto_region 1 with fail
  clear hw0
  go_wp2_with fail
  obtain ⟨x0, hA0, hf0, hk0⟩ := HU0.out
  have hBB0 : B ≤ w0.heap.size := Nat.le_trans hB (by have := hk0.size; omega)
  have hin0 := HI0.out
  have hsz0 := hin0.size
  have hc0 : (s : St).code.length < 1000000 := by omega
  have hs0 : (s : St).stack.length < 1000000 := by omega
  have hbn0 : n ≤ 700000 := hn
  have HC0 := Lib.hid (put_any (35) (0) (0) w0 B bb x0 (s) hA0 hBB0 hc0)
  have HF0 := Lib.hid hf0
  have HK0 := Lib.hid hk0
  clear hA0 hf0 hk0 hBB0 hin0 hsz0 hc0 hs0 hbn0
  refine HC0.out.mono ?_
  rintro e1 w1 ⟨rfl, u1⟩
  have HU1 := Lib.hid (Upd.trans HF0.out HK0.out u1)
  have HI1 := Lib.hid (show Inv (putP (s) (35) (0) (0) : St) (n + 1) from HI0.out.put _ _ _)
  clear u1 HC0 HF0 HK0 y0 y1 y2 y3 y4
  obtain ⟨y0, y1, y2, y3, y4⟩ := HBOX.out _ _ HU1.out
  go_wp2_with fail
  obtain ⟨w2, hw2⟩ : ∃ W, w1.alloc (.cells #[.int .u8 127, .int .u8 126] 5) = W := ⟨_, rfl⟩
  have HU2 := Lib.hid (show Upd w0 B bb x (putP (s) (35) (0) (0)) w2 by rw [← hw2]; exact HU1.out.then_ ((Below.refl _ _).alloc (Nat.le_refl _) _))
  have HI2 := Lib.hid HI1.out
  rw [hw2]
  clear hw2 y0 y1 y2 y3 y4
  obtain ⟨y0, y1, y2, y3, y4⟩ := HBOX.out _ _ HU2.out
  obtain ⟨x2, hA2, hf2, hk2⟩ := HU2.out
  have hBB2 : B ≤ w2.heap.size := by have := hk2.size; omega
  have hin2 := HI2.out
  have hsz2 := hin2.size
  have hc2 : (putP (s) (35) (0) (0) : St).code.length < 1000000 := by omega
  have hs2 : (putP (s) (35) (0) (0) : St).stack.length < 1000000 := by omega
  have hbn2 : n ≤ 700000 := hn
  have HC2 := Lib.hid (push_any 127 w2 B bb x2 (putP (s) (35) (0) (0)) hA2 hBB2 hs2)
  have HF2 := Lib.hid hf2
  have HK2 := Lib.hid hk2
  clear hA2 hf2 hk2 hBB2 hin2 hsz2 hc2 hs2 hbn2
  refine HC2.out.mono ?_
  rintro e3 w3 ⟨rfl, u3⟩
  have HU3 := Lib.hid (Upd.trans HF2.out HK2.out u3)
  have HI3 := Lib.hid (show Inv (pushP (putP (s) (35) (0) (0)) 127 : St) (n + 1 + 3) from HI2.out.push (by decide))
  clear u3 HC2 HF2 HK2 y0 y1 y2 y3 y4
  obtain ⟨y0, y1, y2, y3, y4⟩ := HBOX.out _ _ HU3.out
  go_wp2_with fail
  have HP4 := Lib.hid (has_want HI3.out 126)
  obtain ⟨x3, hA3, hf3, hk3⟩ := HU3.out
  have hBB3 : B ≤ w3.heap.size := by have := hk3.size; omega
  have hin3 := HI3.out
  have hsz3 := hin3.size
  have hc3 : (pushP (putP (s) (35) (0) (0)) 127 : St).code.length < 1000000 := by omega
  have hs3 : (pushP (putP (s) (35) (0) (0)) 127 : St).stack.length < 1000000 := by omega
  have hbn3 : n ≤ 700000 := hn
  have HC3 := Lib.hid (want_any 126 w3 B bb x3 _ _ hin3 (by omega) hA3 hBB3 (by decide))
  have HF3 := Lib.hid hf3
  have HK3 := Lib.hid hk3
  clear hA3 hf3 hk3 hBB3 hin3 hsz3 hc3 hs3 hbn3
  refine HC3.out.mono ?_
  rintro e4 w4 ⟨rfl, u4⟩
  have HU4 := Lib.hid (Upd.trans HF3.out HK3.out u4)
  have HI4 := Lib.hid (show Inv (wantP (pushP (putP (s) (35) (0) (0)) 127) 126 : St) (n + 1 + 3 + 4) from HI3.out.want (by decide))
  clear u4 HC3 HF3 HK3 y0 y1 y2 y3 y4
  obtain ⟨y0, y1, y2, y3, y4⟩ := HBOX.out _ _ HU4.out
  go_wp2_with fail
  obtain ⟨x4, hA4, hf4, hk4⟩ := HU4.out
  have hBB4 : B ≤ w4.heap.size := by have := hk4.size; omega
  have hin4 := HI4.out
  have hsz4 := hin4.size
  have hc4 : (wantP (pushP (putP (s) (35) (0) (0)) 127) 126 : St).code.length < 1000000 := by omega
  have hs4 : (wantP (pushP (putP (s) (35) (0) (0)) 127) 126 : St).stack.length < 1000000 := by omega
  have hbn4 : n ≤ 700000 := hn
  have HC4 := Lib.hid (put_any (36) (1) (0) w4 B bb x4 (wantP (pushP (putP (s) (35) (0) (0)) 127) 126) hA4 hBB4 hc4)
  have HF4 := Lib.hid hf4
  have HK4 := Lib.hid hk4
  clear hA4 hf4 hk4 hBB4 hin4 hsz4 hc4 hs4 hbn4
  refine HC4.out.mono ?_
  rintro e5 w5 ⟨rfl, u5⟩
  have HU5 := Lib.hid (Upd.trans HF4.out HK4.out u5)
  have HI5 := Lib.hid (show Inv (putP (wantP (pushP (putP (s) (35) (0) (0)) 127) 126) (36) (1) (0) : St) (n + 1 + 3 + 4 + 1) from HI4.out.put _ _ _)
  clear u5 HC4 HF4 HK4 y0 y1 y2 y3 y4
  obtain ⟨y0, y1, y2, y3, y4⟩ := HBOX.out _ _ HU5.out
  go_wp2_with fail
  obtain ⟨x5, hA5, hf5, hk5⟩ := HU5.out
  have hBB5 : B ≤ w5.heap.size := by have := hk5.size; omega
  have hin5 := HI5.out
  have hsz5 := hin5.size
  have hc5 : (putP (wantP (pushP (putP (s) (35) (0) (0)) 127) 126) (36) (1) (0) : St).code.length < 1000000 := by omega
  have hs5 : (putP (wantP (pushP (putP (s) (35) (0) (0)) 127) 126) (36) (1) (0) : St).stack.length < 1000000 := by omega
  have hbn5 : n ≤ 700000 := hn
  have HC5 := Lib.hid (take_any w5 B bb x5 (putP (wantP (pushP (putP (s) (35) (0) (0)) 127) 126) (36) (1) (0)) hA5 hs5 (by have := HP4.out; unfold hasP at this; show 0 < _; exact Nat.lt_of_lt_of_le this (Nat.sub_le _ _)))
  have HF5 := Lib.hid hf5
  have HK5 := Lib.hid hk5
  clear hA5 hf5 hk5 hBB5 hin5 hsz5 hc5 hs5 hbn5
  refine HC5.out.mono ?_
  rintro e6 w6 ⟨rfl, u6⟩
  have HU6 := Lib.hid (Upd.trans HF5.out HK5.out u6)
  have HI6 := Lib.hid (show Inv (takeP (putP (wantP (pushP (putP (s) (35) (0) (0)) 127) 126) (36) (1) (0)) : St) (n + 1 + 3 + 4 + 1) from HI5.out.take HP4.out)
  clear u6 HC5 HF5 HK5 y0 y1 y2 y3 y4
  obtain ⟨y0, y1, y2, y3, y4⟩ := HBOX.out _ _ HU6.out
  go_wp2_with fail
  go_end0
  refine ⟨rfl, ?_⟩
  have hJ : doesP s ⟨kind, a, b, op⟩ = takeP (putP (wantP (pushP (putP (s) (35) (0) (0)) 127) 126) (36) (1) (0)) := by
    simp [doesP, hk, hp]
  rw [← HJ.out, hJ]
  exact Upd.after HB0.out HU6.out
set_option maxRecDepth 100000 in
set_option maxHeartbeats 4000000 in
theorem does_8_1 (kind : Nat) (a b : Int) (op : Nat) (w : World) (B bb : Nat) (x : Px) (s : St) (n : Nat) (hI : Inv s n) (hn : n ≤ 700000) (h : PAt w B bb x s) (hB : B ≤ w.heap.size) (hkd : kind < 256) (hop : op < 256) (hk : kind % 16 = 8) (hp : op % 2 = 1) :
    Calls Tryz.prog 14 #[.pointer (some ⟨bb, 0, none⟩), .agg #[.int .u8 (kind : Int), .int .i64 a, .int .i64 b, .int .u8 (op : Int)]] w fun e w' => e = .returned (.tuple #[]) ∧ Upd w B bb x (doesP s ⟨kind, a, b, op⟩) w' := by
  obtain ⟨J, hJ⟩ : ∃ J, doesP s ⟨kind, a, b, op⟩ = J := ⟨_, rfl⟩
  rw [hJ]
  have HJ := Lib.hid hJ
  clear hJ
  obtain ⟨w0, hw0⟩ : ∃ w0, w.alloc (.cells #[.int .u8 (kind : Int), .int .i64 a, .int .i64 b, .int .u8 (op : Int)] 62) = w0 := ⟨_, rfl⟩
  have B0 : Below w.heap.size w w0 := by rw [← hw0]; exact (Below.refl _ _).alloc (Nat.le_refl _) _
  have z0 : w.heap.size < w0.heap.size := by rw [← hw0]; simp
  have hbox : ∀ (s' : St) (wr : World), Upd w0 B bb x s' wr → wr.cell? ⟨w.heap.size, 0, none⟩ = some (.int .u8 (kind : Int)) ∧ wr.cell? ⟨w.heap.size, 1, none⟩ = some (.int .i64 a) ∧ wr.cell? ⟨w.heap.size, 2, none⟩ = some (.int .i64 b) ∧ wr.cell? ⟨w.heap.size, 3, none⟩ = some (.int .u8 (op : Int)) ∧ w.heap.size < wr.heap.size := fun s' wr u => by
    rw [← hw0] at u
    exact ⟨Upd.box h u (by simp), Upd.box h u (by simp), Upd.box h u (by simp), Upd.box h u (by simp), by have := u.size; simp at this; omega⟩
  have HBOX := Lib.hid hbox
  have HB0 := Lib.hid B0
  have HI0 := Lib.hid hI
  have HU0 := Lib.hid (Upd.same (h.later B0))
  have HW := Lib.hid hw0
  obtain ⟨y0, y1, y2, y3, y4⟩ := hbox _ _ HU0.out
  have HH := Lib.hid h
  clear hbox h hI B0 hw0
  have hki : (kind : Int) % 16 = 8 := by omega
  have hpi : (op : Int) % 2 = 1 := by omega
  go_enter Tryz.func14, Tryz.ntmps14
  have hw0 := HW.out
  go_upto_region 1 with fail
  clear hw0
  go_wp2_with fail
  obtain ⟨x0, hA0, hf0, hk0⟩ := HU0.out
  have hBB0 : B ≤ w0.heap.size := Nat.le_trans hB (by have := hk0.size; omega)
  have hin0 := HI0.out
  have hsz0 := hin0.size
  have hc0 : (s : St).code.length < 1000000 := by omega
  have hs0 : (s : St).stack.length < 1000000 := by omega
  have hbn0 : n ≤ 700000 := hn
  have HC0 := Lib.hid (put_any (35) (1) (0) w0 B bb x0 (s) hA0 hBB0 hc0)
  have HF0 := Lib.hid hf0
  have HK0 := Lib.hid hk0
  clear hA0 hf0 hk0 hBB0 hin0 hsz0 hc0 hs0 hbn0
  refine HC0.out.mono ?_
  rintro e1 w1 ⟨rfl, u1⟩
  have HU1 := Lib.hid (Upd.trans HF0.out HK0.out u1)
  have HI1 := Lib.hid (show Inv (putP (s) (35) (1) (0) : St) (n + 1) from HI0.out.put _ _ _)
  clear u1 HC0 HF0 HK0 y0 y1 y2 y3 y4
  obtain ⟨y0, y1, y2, y3, y4⟩ := HBOX.out _ _ HU1.out
  go_wp2_with fail
  obtain ⟨w2, hw2⟩ : ∃ W, w1.alloc (.cells #[.int .u8 127, .int .u8 126] 5) = W := ⟨_, rfl⟩
  have HU2 := Lib.hid (show Upd w0 B bb x (putP (s) (35) (1) (0)) w2 by rw [← hw2]; exact HU1.out.then_ ((Below.refl _ _).alloc (Nat.le_refl _) _))
  have HI2 := Lib.hid HI1.out
  rw [hw2]
  clear hw2 y0 y1 y2 y3 y4
  obtain ⟨y0, y1, y2, y3, y4⟩ := HBOX.out _ _ HU2.out
  obtain ⟨x2, hA2, hf2, hk2⟩ := HU2.out
  have hBB2 : B ≤ w2.heap.size := by have := hk2.size; omega
  have hin2 := HI2.out
  have hsz2 := hin2.size
  have hc2 : (putP (s) (35) (1) (0) : St).code.length < 1000000 := by omega
  have hs2 : (putP (s) (35) (1) (0) : St).stack.length < 1000000 := by omega
  have hbn2 : n ≤ 700000 := hn
  have HC2 := Lib.hid (push_any 126 w2 B bb x2 (putP (s) (35) (1) (0)) hA2 hBB2 hs2)
  have HF2 := Lib.hid hf2
  have HK2 := Lib.hid hk2
  clear hA2 hf2 hk2 hBB2 hin2 hsz2 hc2 hs2 hbn2
  refine HC2.out.mono ?_
  rintro e3 w3 ⟨rfl, u3⟩
  have HU3 := Lib.hid (Upd.trans HF2.out HK2.out u3)
  have HI3 := Lib.hid (show Inv (pushP (putP (s) (35) (1) (0)) 126 : St) (n + 1 + 3) from HI2.out.push (by decide))
  clear u3 HC2 HF2 HK2 y0 y1 y2 y3 y4
  obtain ⟨y0, y1, y2, y3, y4⟩ := HBOX.out _ _ HU3.out
  go_wp2_with fail
  have HP4 := Lib.hid (has_want HI3.out 126)
  obtain ⟨x3, hA3, hf3, hk3⟩ := HU3.out
  have hBB3 : B ≤ w3.heap.size := by have := hk3.size; omega
  have hin3 := HI3.out
  have hsz3 := hin3.size
  have hc3 : (pushP (putP (s) (35) (1) (0)) 126 : St).code.length < 1000000 := by omega
  have hs3 : (pushP (putP (s) (35) (1) (0)) 126 : St).stack.length < 1000000 := by omega
  have hbn3 : n ≤ 700000 := hn
  have HC3 := Lib.hid (want_any 126 w3 B bb x3 _ _ hin3 (by omega) hA3 hBB3 (by decide))
  have HF3 := Lib.hid hf3
  have HK3 := Lib.hid hk3
  clear hA3 hf3 hk3 hBB3 hin3 hsz3 hc3 hs3 hbn3
  refine HC3.out.mono ?_
  rintro e4 w4 ⟨rfl, u4⟩
  have HU4 := Lib.hid (Upd.trans HF3.out HK3.out u4)
  have HI4 := Lib.hid (show Inv (wantP (pushP (putP (s) (35) (1) (0)) 126) 126 : St) (n + 1 + 3 + 4) from HI3.out.want (by decide))
  clear u4 HC3 HF3 HK3 y0 y1 y2 y3 y4
  obtain ⟨y0, y1, y2, y3, y4⟩ := HBOX.out _ _ HU4.out
  go_wp2_with fail
  obtain ⟨x4, hA4, hf4, hk4⟩ := HU4.out
  have hBB4 : B ≤ w4.heap.size := by have := hk4.size; omega
  have hin4 := HI4.out
  have hsz4 := hin4.size
  have hc4 : (wantP (pushP (putP (s) (35) (1) (0)) 126) 126 : St).code.length < 1000000 := by omega
  have hs4 : (wantP (pushP (putP (s) (35) (1) (0)) 126) 126 : St).stack.length < 1000000 := by omega
  have hbn4 : n ≤ 700000 := hn
  have HC4 := Lib.hid (put_any (36) (1) (0) w4 B bb x4 (wantP (pushP (putP (s) (35) (1) (0)) 126) 126) hA4 hBB4 hc4)
  have HF4 := Lib.hid hf4
  have HK4 := Lib.hid hk4
  clear hA4 hf4 hk4 hBB4 hin4 hsz4 hc4 hs4 hbn4
  refine HC4.out.mono ?_
  rintro e5 w5 ⟨rfl, u5⟩
  have HU5 := Lib.hid (Upd.trans HF4.out HK4.out u5)
  have HI5 := Lib.hid (show Inv (putP (wantP (pushP (putP (s) (35) (1) (0)) 126) 126) (36) (1) (0) : St) (n + 1 + 3 + 4 + 1) from HI4.out.put _ _ _)
  clear u5 HC4 HF4 HK4 y0 y1 y2 y3 y4
  obtain ⟨y0, y1, y2, y3, y4⟩ := HBOX.out _ _ HU5.out
  go_wp2_with fail
  obtain ⟨x5, hA5, hf5, hk5⟩ := HU5.out
  have hBB5 : B ≤ w5.heap.size := by have := hk5.size; omega
  have hin5 := HI5.out
  have hsz5 := hin5.size
  have hc5 : (putP (wantP (pushP (putP (s) (35) (1) (0)) 126) 126) (36) (1) (0) : St).code.length < 1000000 := by omega
  have hs5 : (putP (wantP (pushP (putP (s) (35) (1) (0)) 126) 126) (36) (1) (0) : St).stack.length < 1000000 := by omega
  have hbn5 : n ≤ 700000 := hn
  have HC5 := Lib.hid (take_any w5 B bb x5 (putP (wantP (pushP (putP (s) (35) (1) (0)) 126) 126) (36) (1) (0)) hA5 hs5 (by have := HP4.out; unfold hasP at this; show 0 < _; exact Nat.lt_of_lt_of_le this (Nat.sub_le _ _)))
  have HF5 := Lib.hid hf5
  have HK5 := Lib.hid hk5
  clear hA5 hf5 hk5 hBB5 hin5 hsz5 hc5 hs5 hbn5
  refine HC5.out.mono ?_
  rintro e6 w6 ⟨rfl, u6⟩
  have HU6 := Lib.hid (Upd.trans HF5.out HK5.out u6)
  have HI6 := Lib.hid (show Inv (takeP (putP (wantP (pushP (putP (s) (35) (1) (0)) 126) 126) (36) (1) (0)) : St) (n + 1 + 3 + 4 + 1) from HI5.out.take HP4.out)
  clear u6 HC5 HF5 HK5 y0 y1 y2 y3 y4
  obtain ⟨y0, y1, y2, y3, y4⟩ := HBOX.out _ _ HU6.out
  go_wp2_with fail
  go_end0
  refine ⟨rfl, ?_⟩
  have hJ : doesP s ⟨kind, a, b, op⟩ = takeP (putP (wantP (pushP (putP (s) (35) (1) (0)) 126) 126) (36) (1) (0)) := by
    simp [doesP, hk, hp]
  rw [← HJ.out, hJ]
  exact Upd.after HB0.out HU6.out
set_option maxRecDepth 100000 in
set_option maxHeartbeats 4000000 in
theorem does_9_0 (kind : Nat) (a b : Int) (op : Nat) (w : World) (B bb : Nat) (x : Px) (s : St) (n : Nat) (hI : Inv s n) (hn : n ≤ 700000) (h : PAt w B bb x s) (hB : B ≤ w.heap.size) (hkd : kind < 256) (hop : op < 256) (hk : kind % 16 = 9) (hp : op % 2 = 0) :
    Calls Tryz.prog 14 #[.pointer (some ⟨bb, 0, none⟩), .agg #[.int .u8 (kind : Int), .int .i64 a, .int .i64 b, .int .u8 (op : Int)]] w fun e w' => e = .returned (.tuple #[]) ∧ Upd w B bb x (doesP s ⟨kind, a, b, op⟩) w' := by
  obtain ⟨J, hJ⟩ : ∃ J, doesP s ⟨kind, a, b, op⟩ = J := ⟨_, rfl⟩
  rw [hJ]
  have HJ := Lib.hid hJ
  clear hJ
  obtain ⟨w0, hw0⟩ : ∃ w0, w.alloc (.cells #[.int .u8 (kind : Int), .int .i64 a, .int .i64 b, .int .u8 (op : Int)] 62) = w0 := ⟨_, rfl⟩
  have B0 : Below w.heap.size w w0 := by rw [← hw0]; exact (Below.refl _ _).alloc (Nat.le_refl _) _
  have z0 : w.heap.size < w0.heap.size := by rw [← hw0]; simp
  have hbox : ∀ (s' : St) (wr : World), Upd w0 B bb x s' wr → wr.cell? ⟨w.heap.size, 0, none⟩ = some (.int .u8 (kind : Int)) ∧ wr.cell? ⟨w.heap.size, 1, none⟩ = some (.int .i64 a) ∧ wr.cell? ⟨w.heap.size, 2, none⟩ = some (.int .i64 b) ∧ wr.cell? ⟨w.heap.size, 3, none⟩ = some (.int .u8 (op : Int)) ∧ w.heap.size < wr.heap.size := fun s' wr u => by
    rw [← hw0] at u
    exact ⟨Upd.box h u (by simp), Upd.box h u (by simp), Upd.box h u (by simp), Upd.box h u (by simp), by have := u.size; simp at this; omega⟩
  have HBOX := Lib.hid hbox
  have HB0 := Lib.hid B0
  have HI0 := Lib.hid hI
  have HU0 := Lib.hid (Upd.same (h.later B0))
  have HW := Lib.hid hw0
  obtain ⟨y0, y1, y2, y3, y4⟩ := hbox _ _ HU0.out
  have HH := Lib.hid h
  clear hbox h hI B0 hw0
  have hki : (kind : Int) % 16 = 9 := by omega
  have hpi : (op : Int) % 2 = 0 := by omega
  have har := and_room b
  go_enter Tryz.func14, Tryz.ntmps14
  have hw0 := HW.out
  go_upto_region 1 with fail
  clear hw0
  go_wp2_with fail
  have HP1 := Lib.hid (has_want HI0.out 127)
  obtain ⟨x0, hA0, hf0, hk0⟩ := HU0.out
  have hBB0 : B ≤ w0.heap.size := Nat.le_trans hB (by have := hk0.size; omega)
  have hin0 := HI0.out
  have hsz0 := hin0.size
  have hc0 : (s : St).code.length < 1000000 := by omega
  have hs0 : (s : St).stack.length < 1000000 := by omega
  have hbn0 : n ≤ 700000 := hn
  have HC0 := Lib.hid (want_any 127 w0 B bb x0 _ _ hin0 (by omega) hA0 hBB0 (by decide))
  have HF0 := Lib.hid hf0
  have HK0 := Lib.hid hk0
  clear hA0 hf0 hk0 hBB0 hin0 hsz0 hc0 hs0 hbn0
  refine HC0.out.mono ?_
  rintro e1 w1 ⟨rfl, u1⟩
  have HU1 := Lib.hid (Upd.trans HF0.out HK0.out u1)
  have HI1 := Lib.hid (show Inv (wantP (s) 127 : St) (n + 4) from HI0.out.want (by decide))
  clear u1 HC0 HF0 HK0 y0 y1 y2 y3 y4
  obtain ⟨y0, y1, y2, y3, y4⟩ := HBOX.out _ _ HU1.out
  go_wp2_with fail
  obtain ⟨x1, hA1, hf1, hk1⟩ := HU1.out
  have hBB1 : B ≤ w1.heap.size := by have := hk1.size; omega
  have hin1 := HI1.out
  have hsz1 := hin1.size
  have hc1 : (wantP (s) 127 : St).code.length < 1000000 := by omega
  have hs1 : (wantP (s) 127 : St).stack.length < 1000000 := by omega
  have hbn1 : n ≤ 700000 := hn
  have HC1 := Lib.hid (put_any (40) ((op : Int) % 3) (b % 131072) w1 B bb x1 (wantP (s) 127) hA1 hBB1 hc1)
  have HF1 := Lib.hid hf1
  have HK1 := Lib.hid hk1
  clear hA1 hf1 hk1 hBB1 hin1 hsz1 hc1 hs1 hbn1
  refine HC1.out.mono ?_
  rintro e2 w2 ⟨rfl, u2⟩
  have HU2 := Lib.hid (Upd.trans HF1.out HK1.out u2)
  have HI2 := Lib.hid (show Inv (putP (wantP (s) 127) (40) ((op : Int) % 3) (b % 131072) : St) (n + 4 + 1) from HI1.out.put _ _ _)
  clear u2 HC1 HF1 HK1 y0 y1 y2 y3 y4
  obtain ⟨y0, y1, y2, y3, y4⟩ := HBOX.out _ _ HU2.out
  go_wp2_with fail
  go_end0
  refine ⟨rfl, ?_⟩
  have hJ : doesP s ⟨kind, a, b, op⟩ = putP (wantP (s) 127) (40) ((op : Int) % 3) (b % 131072) := by
    simp [doesP, hk]
  rw [← HJ.out, hJ]
  exact Upd.after HB0.out HU2.out
set_option maxRecDepth 100000 in
set_option maxHeartbeats 4000000 in
theorem does_10_0 (kind : Nat) (a b : Int) (op : Nat) (w : World) (B bb : Nat) (x : Px) (s : St) (n : Nat) (hI : Inv s n) (hn : n ≤ 700000) (h : PAt w B bb x s) (hB : B ≤ w.heap.size) (hkd : kind < 256) (hop : op < 256) (hk : kind % 16 = 10) (hp : op % 2 = 0) :
    Calls Tryz.prog 14 #[.pointer (some ⟨bb, 0, none⟩), .agg #[.int .u8 (kind : Int), .int .i64 a, .int .i64 b, .int .u8 (op : Int)]] w fun e w' => e = .returned (.tuple #[]) ∧ Upd w B bb x (doesP s ⟨kind, a, b, op⟩) w' := by
  obtain ⟨J, hJ⟩ : ∃ J, doesP s ⟨kind, a, b, op⟩ = J := ⟨_, rfl⟩
  rw [hJ]
  have HJ := Lib.hid hJ
  clear hJ
  obtain ⟨w0, hw0⟩ : ∃ w0, w.alloc (.cells #[.int .u8 (kind : Int), .int .i64 a, .int .i64 b, .int .u8 (op : Int)] 62) = w0 := ⟨_, rfl⟩
  have B0 : Below w.heap.size w w0 := by rw [← hw0]; exact (Below.refl _ _).alloc (Nat.le_refl _) _
  have z0 : w.heap.size < w0.heap.size := by rw [← hw0]; simp
  have hbox : ∀ (s' : St) (wr : World), Upd w0 B bb x s' wr → wr.cell? ⟨w.heap.size, 0, none⟩ = some (.int .u8 (kind : Int)) ∧ wr.cell? ⟨w.heap.size, 1, none⟩ = some (.int .i64 a) ∧ wr.cell? ⟨w.heap.size, 2, none⟩ = some (.int .i64 b) ∧ wr.cell? ⟨w.heap.size, 3, none⟩ = some (.int .u8 (op : Int)) ∧ w.heap.size < wr.heap.size := fun s' wr u => by
    rw [← hw0] at u
    exact ⟨Upd.box h u (by simp), Upd.box h u (by simp), Upd.box h u (by simp), Upd.box h u (by simp), by have := u.size; simp at this; omega⟩
  have HBOX := Lib.hid hbox
  have HB0 := Lib.hid B0
  have HI0 := Lib.hid hI
  have HU0 := Lib.hid (Upd.same (h.later B0))
  have HW := Lib.hid hw0
  obtain ⟨y0, y1, y2, y3, y4⟩ := hbox _ _ HU0.out
  have HH := Lib.hid h
  clear hbox h hI B0 hw0
  have hki : (kind : Int) % 16 = 10 := by omega
  have hpi : (op : Int) % 2 = 0 := by omega
  have har := and_room b
  go_enter Tryz.func14, Tryz.ntmps14
  have hw0 := HW.out
  go_upto_region 1 with fail
  clear hw0
  go_wp2_with fail
  have HP1 := Lib.hid (has_want HI0.out 127)
  obtain ⟨x0, hA0, hf0, hk0⟩ := HU0.out
  have hBB0 : B ≤ w0.heap.size := Nat.le_trans hB (by have := hk0.size; omega)
  have hin0 := HI0.out
  have hsz0 := hin0.size
  have hc0 : (s : St).code.length < 1000000 := by omega
  have hs0 : (s : St).stack.length < 1000000 := by omega
  have hbn0 : n ≤ 700000 := hn
  have HC0 := Lib.hid (want_any 127 w0 B bb x0 _ _ hin0 (by omega) hA0 hBB0 (by decide))
  have HF0 := Lib.hid hf0
  have HK0 := Lib.hid hk0
  clear hA0 hf0 hk0 hBB0 hin0 hsz0 hc0 hs0 hbn0
  refine HC0.out.mono ?_
  rintro e1 w1 ⟨rfl, u1⟩
  have HU1 := Lib.hid (Upd.trans HF0.out HK0.out u1)
  have HI1 := Lib.hid (show Inv (wantP (s) 127 : St) (n + 4) from HI0.out.want (by decide))
  clear u1 HC0 HF0 HK0 y0 y1 y2 y3 y4
  obtain ⟨y0, y1, y2, y3, y4⟩ := HBOX.out _ _ HU1.out
  go_wp2_with fail
  obtain ⟨x1, hA1, hf1, hk1⟩ := HU1.out
  have hBB1 : B ≤ w1.heap.size := by have := hk1.size; omega
  have hin1 := HI1.out
  have hsz1 := hin1.size
  have hc1 : (wantP (s) 127 : St).code.length < 1000000 := by omega
  have hs1 : (wantP (s) 127 : St).stack.length < 1000000 := by omega
  have hbn1 : n ≤ 700000 := hn
  have HC1 := Lib.hid (put_any (32) (0) (0) w1 B bb x1 (wantP (s) 127) hA1 hBB1 hc1)
  have HF1 := Lib.hid hf1
  have HK1 := Lib.hid hk1
  clear hA1 hf1 hk1 hBB1 hin1 hsz1 hc1 hs1 hbn1
  refine HC1.out.mono ?_
  rintro e2 w2 ⟨rfl, u2⟩
  have HU2 := Lib.hid (Upd.trans HF1.out HK1.out u2)
  have HI2 := Lib.hid (show Inv (putP (wantP (s) 127) (32) (0) (0) : St) (n + 4 + 1) from HI1.out.put _ _ _)
  clear u2 HC1 HF1 HK1 y0 y1 y2 y3 y4
  obtain ⟨y0, y1, y2, y3, y4⟩ := HBOX.out _ _ HU2.out
  go_wp2_with fail
  obtain ⟨x2, hA2, hf2, hk2⟩ := HU2.out
  have hBB2 : B ≤ w2.heap.size := by have := hk2.size; omega
  have hin2 := HI2.out
  have hsz2 := hin2.size
  have hc2 : (putP (wantP (s) 127) (32) (0) (0) : St).code.length < 1000000 := by omega
  have hs2 : (putP (wantP (s) 127) (32) (0) (0) : St).stack.length < 1000000 := by omega
  have hbn2 : n ≤ 700000 := hn
  have HC2 := Lib.hid (put_any (60 + (op : Int) % 3) (0) (b % 131072) w2 B bb x2 (putP (wantP (s) 127) (32) (0) (0)) hA2 hBB2 hc2)
  have HF2 := Lib.hid hf2
  have HK2 := Lib.hid hk2
  clear hA2 hf2 hk2 hBB2 hin2 hsz2 hc2 hs2 hbn2
  refine HC2.out.mono ?_
  rintro e3 w3 ⟨rfl, u3⟩
  have HU3 := Lib.hid (Upd.trans HF2.out HK2.out u3)
  have HI3 := Lib.hid (show Inv (putP (putP (wantP (s) 127) (32) (0) (0)) (60 + (op : Int) % 3) (0) (b % 131072) : St) (n + 4 + 1 + 1) from HI2.out.put _ _ _)
  clear u3 HC2 HF2 HK2 y0 y1 y2 y3 y4
  obtain ⟨y0, y1, y2, y3, y4⟩ := HBOX.out _ _ HU3.out
  go_wp2_with fail
  obtain ⟨x3, hA3, hf3, hk3⟩ := HU3.out
  have hBB3 : B ≤ w3.heap.size := by have := hk3.size; omega
  have hin3 := HI3.out
  have hsz3 := hin3.size
  have hc3 : (putP (putP (wantP (s) 127) (32) (0) (0)) (60 + (op : Int) % 3) (0) (b % 131072) : St).code.length < 1000000 := by omega
  have hs3 : (putP (putP (wantP (s) 127) (32) (0) (0)) (60 + (op : Int) % 3) (0) (b % 131072) : St).stack.length < 1000000 := by omega
  have hbn3 : n ≤ 700000 := hn
  have HC3 := Lib.hid (take_any w3 B bb x3 (putP (putP (wantP (s) 127) (32) (0) (0)) (60 + (op : Int) % 3) (0) (b % 131072)) hA3 hs3 (by have := HP1.out; unfold hasP at this; show 0 < _; exact Nat.lt_of_lt_of_le this (Nat.sub_le _ _)))
  have HF3 := Lib.hid hf3
  have HK3 := Lib.hid hk3
  clear hA3 hf3 hk3 hBB3 hin3 hsz3 hc3 hs3 hbn3
  refine HC3.out.mono ?_
  rintro e4 w4 ⟨rfl, u4⟩
  have HU4 := Lib.hid (Upd.trans HF3.out HK3.out u4)
  have HI4 := Lib.hid (show Inv (takeP (putP (putP (wantP (s) 127) (32) (0) (0)) (60 + (op : Int) % 3) (0) (b % 131072)) : St) (n + 4 + 1 + 1) from HI3.out.take HP1.out)
  clear u4 HC3 HF3 HK3 y0 y1 y2 y3 y4
  obtain ⟨y0, y1, y2, y3, y4⟩ := HBOX.out _ _ HU4.out
  go_wp2_with fail
  go_end0
  refine ⟨rfl, ?_⟩
  have hJ : doesP s ⟨kind, a, b, op⟩ = takeP (putP (putP (wantP (s) 127) (32) (0) (0)) (60 + (op : Int) % 3) (0) (b % 131072)) := by
    simp [doesP, hk]
  rw [← HJ.out, hJ]
  exact Upd.after HB0.out HU4.out
set_option maxRecDepth 100000 in
set_option maxHeartbeats 4000000 in
theorem does_9_1 (kind : Nat) (a b : Int) (op : Nat) (w : World) (B bb : Nat) (x : Px) (s : St) (n : Nat) (hI : Inv s n) (hn : n ≤ 700000) (h : PAt w B bb x s) (hB : B ≤ w.heap.size) (hkd : kind < 256) (hop : op < 256) (hk : kind % 16 = 9) (hp : op % 2 = 1) :
    Calls Tryz.prog 14 #[.pointer (some ⟨bb, 0, none⟩), .agg #[.int .u8 (kind : Int), .int .i64 a, .int .i64 b, .int .u8 (op : Int)]] w fun e w' => e = .returned (.tuple #[]) ∧ Upd w B bb x (doesP s ⟨kind, a, b, op⟩) w' := by
  obtain ⟨J, hJ⟩ : ∃ J, doesP s ⟨kind, a, b, op⟩ = J := ⟨_, rfl⟩
  rw [hJ]
  have HJ := Lib.hid hJ
  clear hJ
  obtain ⟨w0, hw0⟩ : ∃ w0, w.alloc (.cells #[.int .u8 (kind : Int), .int .i64 a, .int .i64 b, .int .u8 (op : Int)] 62) = w0 := ⟨_, rfl⟩
  have B0 : Below w.heap.size w w0 := by rw [← hw0]; exact (Below.refl _ _).alloc (Nat.le_refl _) _
  have z0 : w.heap.size < w0.heap.size := by rw [← hw0]; simp
  have hbox : ∀ (s' : St) (wr : World), Upd w0 B bb x s' wr → wr.cell? ⟨w.heap.size, 0, none⟩ = some (.int .u8 (kind : Int)) ∧ wr.cell? ⟨w.heap.size, 1, none⟩ = some (.int .i64 a) ∧ wr.cell? ⟨w.heap.size, 2, none⟩ = some (.int .i64 b) ∧ wr.cell? ⟨w.heap.size, 3, none⟩ = some (.int .u8 (op : Int)) ∧ w.heap.size < wr.heap.size := fun s' wr u => by
    rw [← hw0] at u
    exact ⟨Upd.box h u (by simp), Upd.box h u (by simp), Upd.box h u (by simp), Upd.box h u (by simp), by have := u.size; simp at this; omega⟩
  have HBOX := Lib.hid hbox
  have HB0 := Lib.hid B0
  have HI0 := Lib.hid hI
  have HU0 := Lib.hid (Upd.same (h.later B0))
  have HW := Lib.hid hw0
  obtain ⟨y0, y1, y2, y3, y4⟩ := hbox _ _ HU0.out
  have HH := Lib.hid h
  clear hbox h hI B0 hw0
  have hki : (kind : Int) % 16 = 9 := by omega
  have hpi : (op : Int) % 2 = 1 := by omega
  have har := and_room b
  go_enter Tryz.func14, Tryz.ntmps14
  have hw0 := HW.out
  go_upto_region 1 with fail
  clear hw0
  go_wp2_with fail
  have HP1 := Lib.hid (has_want HI0.out 127)
  obtain ⟨x0, hA0, hf0, hk0⟩ := HU0.out
  have hBB0 : B ≤ w0.heap.size := Nat.le_trans hB (by have := hk0.size; omega)
  have hin0 := HI0.out
  have hsz0 := hin0.size
  have hc0 : (s : St).code.length < 1000000 := by omega
  have hs0 : (s : St).stack.length < 1000000 := by omega
  have hbn0 : n ≤ 700000 := hn
  have HC0 := Lib.hid (want_any 127 w0 B bb x0 _ _ hin0 (by omega) hA0 hBB0 (by decide))
  have HF0 := Lib.hid hf0
  have HK0 := Lib.hid hk0
  clear hA0 hf0 hk0 hBB0 hin0 hsz0 hc0 hs0 hbn0
  refine HC0.out.mono ?_
  rintro e1 w1 ⟨rfl, u1⟩
  have HU1 := Lib.hid (Upd.trans HF0.out HK0.out u1)
  have HI1 := Lib.hid (show Inv (wantP (s) 127 : St) (n + 4) from HI0.out.want (by decide))
  clear u1 HC0 HF0 HK0 y0 y1 y2 y3 y4
  obtain ⟨y0, y1, y2, y3, y4⟩ := HBOX.out _ _ HU1.out
  go_wp2_with fail
  obtain ⟨x1, hA1, hf1, hk1⟩ := HU1.out
  have hBB1 : B ≤ w1.heap.size := by have := hk1.size; omega
  have hin1 := HI1.out
  have hsz1 := hin1.size
  have hc1 : (wantP (s) 127 : St).code.length < 1000000 := by omega
  have hs1 : (wantP (s) 127 : St).stack.length < 1000000 := by omega
  have hbn1 : n ≤ 700000 := hn
  have HC1 := Lib.hid (put_any (40) ((op : Int) % 3) (b % 131072) w1 B bb x1 (wantP (s) 127) hA1 hBB1 hc1)
  have HF1 := Lib.hid hf1
  have HK1 := Lib.hid hk1
  clear hA1 hf1 hk1 hBB1 hin1 hsz1 hc1 hs1 hbn1
  refine HC1.out.mono ?_
  rintro e2 w2 ⟨rfl, u2⟩
  have HU2 := Lib.hid (Upd.trans HF1.out HK1.out u2)
  have HI2 := Lib.hid (show Inv (putP (wantP (s) 127) (40) ((op : Int) % 3) (b % 131072) : St) (n + 4 + 1) from HI1.out.put _ _ _)
  clear u2 HC1 HF1 HK1 y0 y1 y2 y3 y4
  obtain ⟨y0, y1, y2, y3, y4⟩ := HBOX.out _ _ HU2.out
  go_wp2_with fail
  go_end0
  refine ⟨rfl, ?_⟩
  have hJ : doesP s ⟨kind, a, b, op⟩ = putP (wantP (s) 127) (40) ((op : Int) % 3) (b % 131072) := by
    simp [doesP, hk]
  rw [← HJ.out, hJ]
  exact Upd.after HB0.out HU2.out
set_option maxRecDepth 100000 in
set_option maxHeartbeats 4000000 in
theorem does_10_1 (kind : Nat) (a b : Int) (op : Nat) (w : World) (B bb : Nat) (x : Px) (s : St) (n : Nat) (hI : Inv s n) (hn : n ≤ 700000) (h : PAt w B bb x s) (hB : B ≤ w.heap.size) (hkd : kind < 256) (hop : op < 256) (hk : kind % 16 = 10) (hp : op % 2 = 1) :
    Calls Tryz.prog 14 #[.pointer (some ⟨bb, 0, none⟩), .agg #[.int .u8 (kind : Int), .int .i64 a, .int .i64 b, .int .u8 (op : Int)]] w fun e w' => e = .returned (.tuple #[]) ∧ Upd w B bb x (doesP s ⟨kind, a, b, op⟩) w' := by
  obtain ⟨J, hJ⟩ : ∃ J, doesP s ⟨kind, a, b, op⟩ = J := ⟨_, rfl⟩
  rw [hJ]
  have HJ := Lib.hid hJ
  clear hJ
  obtain ⟨w0, hw0⟩ : ∃ w0, w.alloc (.cells #[.int .u8 (kind : Int), .int .i64 a, .int .i64 b, .int .u8 (op : Int)] 62) = w0 := ⟨_, rfl⟩
  have B0 : Below w.heap.size w w0 := by rw [← hw0]; exact (Below.refl _ _).alloc (Nat.le_refl _) _
  have z0 : w.heap.size < w0.heap.size := by rw [← hw0]; simp
  have hbox : ∀ (s' : St) (wr : World), Upd w0 B bb x s' wr → wr.cell? ⟨w.heap.size, 0, none⟩ = some (.int .u8 (kind : Int)) ∧ wr.cell? ⟨w.heap.size, 1, none⟩ = some (.int .i64 a) ∧ wr.cell? ⟨w.heap.size, 2, none⟩ = some (.int .i64 b) ∧ wr.cell? ⟨w.heap.size, 3, none⟩ = some (.int .u8 (op : Int)) ∧ w.heap.size < wr.heap.size := fun s' wr u => by
    rw [← hw0] at u
    exact ⟨Upd.box h u (by simp), Upd.box h u (by simp), Upd.box h u (by simp), Upd.box h u (by simp), by have := u.size; simp at this; omega⟩
  have HBOX := Lib.hid hbox
  have HB0 := Lib.hid B0
  have HI0 := Lib.hid hI
  have HU0 := Lib.hid (Upd.same (h.later B0))
  have HW := Lib.hid hw0
  obtain ⟨y0, y1, y2, y3, y4⟩ := hbox _ _ HU0.out
  have HH := Lib.hid h
  clear hbox h hI B0 hw0
  have hki : (kind : Int) % 16 = 10 := by omega
  have hpi : (op : Int) % 2 = 1 := by omega
  have har := and_room b
  go_enter Tryz.func14, Tryz.ntmps14
  have hw0 := HW.out
  go_upto_region 1 with fail
  clear hw0
  go_wp2_with fail
  have HP1 := Lib.hid (has_want HI0.out 127)
  obtain ⟨x0, hA0, hf0, hk0⟩ := HU0.out
  have hBB0 : B ≤ w0.heap.size := Nat.le_trans hB (by have := hk0.size; omega)
  have hin0 := HI0.out
  have hsz0 := hin0.size
  have hc0 : (s : St).code.length < 1000000 := by omega
  have hs0 : (s : St).stack.length < 1000000 := by omega
  have hbn0 : n ≤ 700000 := hn
  have HC0 := Lib.hid (want_any 127 w0 B bb x0 _ _ hin0 (by omega) hA0 hBB0 (by decide))
  have HF0 := Lib.hid hf0
  have HK0 := Lib.hid hk0
  clear hA0 hf0 hk0 hBB0 hin0 hsz0 hc0 hs0 hbn0
  refine HC0.out.mono ?_
  rintro e1 w1 ⟨rfl, u1⟩
  have HU1 := Lib.hid (Upd.trans HF0.out HK0.out u1)
  have HI1 := Lib.hid (show Inv (wantP (s) 127 : St) (n + 4) from HI0.out.want (by decide))
  clear u1 HC0 HF0 HK0 y0 y1 y2 y3 y4
  obtain ⟨y0, y1, y2, y3, y4⟩ := HBOX.out _ _ HU1.out
  go_wp2_with fail
  obtain ⟨x1, hA1, hf1, hk1⟩ := HU1.out
  have hBB1 : B ≤ w1.heap.size := by have := hk1.size; omega
  have hin1 := HI1.out
  have hsz1 := hin1.size
  have hc1 : (wantP (s) 127 : St).code.length < 1000000 := by omega
  have hs1 : (wantP (s) 127 : St).stack.length < 1000000 := by omega
  have hbn1 : n ≤ 700000 := hn
  have HC1 := Lib.hid (put_any (32) (0) (0) w1 B bb x1 (wantP (s) 127) hA1 hBB1 hc1)
  have HF1 := Lib.hid hf1
  have HK1 := Lib.hid hk1
  clear hA1 hf1 hk1 hBB1 hin1 hsz1 hc1 hs1 hbn1
  refine HC1.out.mono ?_
  rintro e2 w2 ⟨rfl, u2⟩
  have HU2 := Lib.hid (Upd.trans HF1.out HK1.out u2)
  have HI2 := Lib.hid (show Inv (putP (wantP (s) 127) (32) (0) (0) : St) (n + 4 + 1) from HI1.out.put _ _ _)
  clear u2 HC1 HF1 HK1 y0 y1 y2 y3 y4
  obtain ⟨y0, y1, y2, y3, y4⟩ := HBOX.out _ _ HU2.out
  go_wp2_with fail
  obtain ⟨x2, hA2, hf2, hk2⟩ := HU2.out
  have hBB2 : B ≤ w2.heap.size := by have := hk2.size; omega
  have hin2 := HI2.out
  have hsz2 := hin2.size
  have hc2 : (putP (wantP (s) 127) (32) (0) (0) : St).code.length < 1000000 := by omega
  have hs2 : (putP (wantP (s) 127) (32) (0) (0) : St).stack.length < 1000000 := by omega
  have hbn2 : n ≤ 700000 := hn
  have HC2 := Lib.hid (put_any (60 + (op : Int) % 3) (0) (b % 131072) w2 B bb x2 (putP (wantP (s) 127) (32) (0) (0)) hA2 hBB2 hc2)
  have HF2 := Lib.hid hf2
  have HK2 := Lib.hid hk2
  clear hA2 hf2 hk2 hBB2 hin2 hsz2 hc2 hs2 hbn2
  refine HC2.out.mono ?_
  rintro e3 w3 ⟨rfl, u3⟩
  have HU3 := Lib.hid (Upd.trans HF2.out HK2.out u3)
  have HI3 := Lib.hid (show Inv (putP (putP (wantP (s) 127) (32) (0) (0)) (60 + (op : Int) % 3) (0) (b % 131072) : St) (n + 4 + 1 + 1) from HI2.out.put _ _ _)
  clear u3 HC2 HF2 HK2 y0 y1 y2 y3 y4
  obtain ⟨y0, y1, y2, y3, y4⟩ := HBOX.out _ _ HU3.out
  go_wp2_with fail
  obtain ⟨x3, hA3, hf3, hk3⟩ := HU3.out
  have hBB3 : B ≤ w3.heap.size := by have := hk3.size; omega
  have hin3 := HI3.out
  have hsz3 := hin3.size
  have hc3 : (putP (putP (wantP (s) 127) (32) (0) (0)) (60 + (op : Int) % 3) (0) (b % 131072) : St).code.length < 1000000 := by omega
  have hs3 : (putP (putP (wantP (s) 127) (32) (0) (0)) (60 + (op : Int) % 3) (0) (b % 131072) : St).stack.length < 1000000 := by omega
  have hbn3 : n ≤ 700000 := hn
  have HC3 := Lib.hid (take_any w3 B bb x3 (putP (putP (wantP (s) 127) (32) (0) (0)) (60 + (op : Int) % 3) (0) (b % 131072)) hA3 hs3 (by have := HP1.out; unfold hasP at this; show 0 < _; exact Nat.lt_of_lt_of_le this (Nat.sub_le _ _)))
  have HF3 := Lib.hid hf3
  have HK3 := Lib.hid hk3
  clear hA3 hf3 hk3 hBB3 hin3 hsz3 hc3 hs3 hbn3
  refine HC3.out.mono ?_
  rintro e4 w4 ⟨rfl, u4⟩
  have HU4 := Lib.hid (Upd.trans HF3.out HK3.out u4)
  have HI4 := Lib.hid (show Inv (takeP (putP (putP (wantP (s) 127) (32) (0) (0)) (60 + (op : Int) % 3) (0) (b % 131072)) : St) (n + 4 + 1 + 1) from HI3.out.take HP1.out)
  clear u4 HC3 HF3 HK3 y0 y1 y2 y3 y4
  obtain ⟨y0, y1, y2, y3, y4⟩ := HBOX.out _ _ HU4.out
  go_wp2_with fail
  go_end0
  refine ⟨rfl, ?_⟩
  have hJ : doesP s ⟨kind, a, b, op⟩ = takeP (putP (putP (wantP (s) 127) (32) (0) (0)) (60 + (op : Int) % 3) (0) (b % 131072)) := by
    simp [doesP, hk]
  rw [← HJ.out, hJ]
  exact Upd.after HB0.out HU4.out
end Go.Proofs.YtofepnojhghnnaaGreatDoor.Pg
