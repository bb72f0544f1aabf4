/-
  What a program's level does. No condition beyond what each theorem names.
-/
import Derived.Test.YtmbgemcddjailaaGreatDoorPgB
import Derived.Deep.LoopGhost
import Derived.StillTailTactics
namespace Go.Proofs.YtmbgemcddjailaaGreatDoor.Pg
open Go.RowKit Go.Maps Go.Proofs.YtmbgemcddjailaaGreatDoor.Op Go.Proofs.YtmbgemcddjailaaGreatDoor.Mod
set_option linter.unusedVariables false
theorem Upd.box {w : World} {B bb : Nat} {x : Px} {s0 s : St} {wr : World} {o : Obj} (h0 : PAt w B bb x s0) (u : Upd (w.alloc o) B bb x s wr) {j : Nat} {v : Value} (hc : (w.alloc o).cell? ⟨w.heap.size, j, none⟩ = some v) : wr.cell? ⟨w.heap.size, j, none⟩ = some v := by
  obtain ⟨_, _, _, h3⟩ := u
  exact h3.cell hc (fun hf => by have := (h0.foot_lt _ hf).2; simp at this)
theorem level_drop {s : St} {b : Opn} {j : Nat} (h : b.res = 64) (hj : j + 1 ≤ (readyP s b).stack.length) : takeP (putP (levelS s b j) 26 0 0) = levelS s b (j + 1) := by
  unfold levelS takeP putP stkS dropI
  simp only [h, if_true]
  rw [replicate_flat, List.append_assoc, List.dropLast_eq_take, List.length_take, List.take_take]
  simp only [St.mk.injEq, true_and, and_true]
  congr 1
  omega
theorem level_keep {s : St} {b : Opn} {j : Nat} (h : ¬ b.res = 64) (hj : j + 2 ≤ (readyP s b).stack.length) : ({ levelS s b j with code := (levelS s b j).code ++ dropI b.res, stack := (levelS s b j).stack.take ((levelS s b j).stack.length - 2) ++ [b.res] } : St) = levelS s b (j + 1) := by
  unfold levelS stkS
  simp only [h, if_false]
  rw [replicate_flat, List.append_assoc]
  simp only [St.mk.injEq, true_and, and_true]
  rw [List.length_append, List.length_take]
  simp only [List.length_cons, List.length_nil]
  rw [List.take_append_of_le_length (by rw [List.length_take]; omega), List.take_take]
  congr 2
  omega
theorem levelS_inv {s : St} {n : Nat} (hI : Inv s n) {b : Opn} (hb : b.res = 64 ∨ b.res = 126 ∨ b.res = 127) {j : Nat} (hj : j + manyP b ≤ (readyP s b).stack.length) : (levelS s b j).code.length + 3 * (levelS s b j).stack.length ≤ n + 4 ∧ (levelS s b j).opens = s.opens := by
  have hr := (hI.ready hb).size
  refine ⟨?_, ready_opens s b⟩
  have h3 : (dropI b.res).length ≤ 3 := by unfold dropI; split <;> simp
  have h1 : (levelS s b j).stack.length = (readyP s b).stack.length - j := stkS_len hj
  rw [h1]
  show ((readyP s b).code ++ (List.replicate j (dropI b.res)).flatten).length + _ ≤ _
  rw [List.length_append, List.length_flatten, List.map_replicate, List.sum_replicate_nat]
  have : j * (dropI b.res).length ≤ j * 3 := Nat.mul_le_mul_left _ h3
  omega
set_option maxRecDepth 100000 in
set_option maxHeartbeats 4000000 in
theorem level_64 (op : Int) (H : Nat) (w : World) (B bb : Nat) (x : Px) (s : St) (n : Nat) (hI : Inv s n) (hn : n ≤ 800000) (h : PAt w B bb x s) (hB : B ≤ w.heap.size) (hh : H = topH s) :
    Calls Tryz.prog 26 #[.pointer (some ⟨bb, 0, none⟩), .agg #[.int .i64 op, .int .u8 64, .int .i64 H]] w fun e w' => e = .returned (.tuple #[]) ∧ Upd w B bb x (levelP s ⟨op, 64, H⟩) w' := by
  obtain ⟨b, hb⟩ : ∃ b : Opn, (⟨op, 64, H⟩ : Opn) = b := ⟨_, rfl⟩
  have hbr : b.res = 64 := by rw [← hb]
  have hbh : b.height = topH s := by rw [← hb]; exact hh
  have hres : b.res = 64 ∨ b.res = 126 ∨ b.res = 127 := by omega
  have hmany : manyP b = 0 := by unfold manyP; rw [hbr]; rfl
  have hH : H = b.height := by rw [← hb]
  rw [hb, hH]
  rw [hH] at hh
  have hI2 := hI.ready hres
  have htop := hI2.top_le
  rw [ready_top] at htop
  have hsz := hI2.size
  have hml := many_le hI b
  have hhas : hasP (readyP s b) = (readyP s b).stack.length - topH s := by unfold hasP; rw [ready_top]
  obtain ⟨m, hm⟩ : ∃ m, m = hasP (readyP s b) - manyP b := ⟨_, rfl⟩
  have hms : topH s + m + 0 = (readyP s b).stack.length := by omega
  obtain ⟨w0, hw0⟩ : ∃ w0, w.alloc (.cells #[.int .i64 op, .int .u8 64, .int .i64 b.height] 95) = w0 := ⟨_, rfl⟩
  have B0 : Below w.heap.size w w0 := by rw [← hw0]; exact (Below.refl _ _).alloc (Nat.le_refl _) _
  have z0 : w0.heap.size = w.heap.size + 1 := by rw [← hw0]; simp
  have hbox : ∀ (s' : St) (wr : World), Upd w0 B bb x s' wr → wr.cell? ⟨w.heap.size, 1, none⟩ = some (.int .u8 64) ∧ wr.cell? ⟨w.heap.size, 2, none⟩ = some (.int .i64 b.height) := fun s' wr u => by
    rw [← hw0] at u
    exact ⟨Upd.box h u (by simp), Upd.box h u (by simp)⟩
  have H0 := Lib.hid (h.later B0)
  have HBOX := Lib.hid hbox
  have HB0 := Lib.hid B0
  have hB0 : B ≤ w0.heap.size := by omega
  have hU0 : Upd w0 B bb x s w0 := Upd.same H0.out
  obtain ⟨b1, b2⟩ := hbox _ _ hU0
  have HFACT := Lib.hid (show ∀ j, j ≤ m → (levelS s b j).code.length < 900000 ∧ (levelS s b j).stack.length = (readyP s b).stack.length - j ∧ (levelS s b j).stack.length < 900000 ∧ (levelS s b j).opens.length < 900000 ∧ topH (levelS s b j) = topH s ∧ hasP (levelS s b j) = m - j + 0 from fun j hj => by
    have hj2 : j + manyP b ≤ (readyP s b).stack.length := by omega
    obtain ⟨g1, g2⟩ := levelS_inv hI hres hj2
    have g3 : (levelS s b j).stack.length = (readyP s b).stack.length - j := stkS_len hj2
    have g4 := levelS_has hj2
    have g5 := hI.size
    refine ⟨by omega, g3, by omega, by rw [g2]; omega, by unfold topH; rw [g2], by rw [g4]; omega⟩)
  have HZ := Lib.hid (levelS_zero s b)
  have HEND := Lib.hid (levelS_end (s := s) (b := b) (j := m) hm (by omega) (by omega))
  have HHT := Lib.hid (show b.height + 0 = (readyP s b).stack.length - m by omega)
  have HRS := Lib.hid hms
  have HR := Lib.hid hbr
  have HRESW := Lib.hid (show readyP s b = s by unfold readyP; rw [hbr]; rw [if_pos rfl])
  clear hbox hsz hml hhas hm hms h hI2 htop hbr hb hh hH B0 hU0 hbh hres hmany
  go_enter Tryz.func26, Tryz.ntmps26
  go_wp2_with fail
  clear hw0
  have HU1 := Lib.hid (show Upd w0 B bb x (levelS s b 0) w0 by rw [HZ.out, HRESW.out]; exact Upd.same H0.out)
  go_loopg [13] m (fun gk p wr => gk ≤ m ∧ Upd w0 B bb x (levelS s b (m - gk)) wr)
  case atStart => exact ⟨Nat.le_refl _, by rw [Nat.sub_self]; exact HU1.out⟩
  case round =>
    obtain ⟨hgk, hU⟩ := hrel
    have HU := Lib.hid hU
    obtain ⟨xr, hA, hf, hk⟩ := hU
    obtain ⟨f1, f2, f3, f4, f5, f6⟩ := HFACT.out (m - gk) (by omega)
    have hBr : B ≤ wr.heap.size := Nat.le_trans hB0 hk.size
    have htp : topH (levelS s b (m - gk)) ≤ (levelS s b (m - gk)).stack.length := by have := HHT.out; have := HRS.out; rw [f5, f2]; omega
    have hcall := has_any wr B bb xr _ hA (by omega) (by omega) htp
    have h6 : hasP (levelS s b (m - gk)) = gk + 0 := by rw [f6]; omega
    rw [h6] at hcall
    have HA := Lib.hid hA
    have HF := Lib.hid hf
    have HK := Lib.hid hk
    have HCALL := Lib.hid hcall
    have F1 := Lib.hid f1
    have F2 := Lib.hid f2
    have F3 := Lib.hid f3
    have F4 := Lib.hid f4
    have F5 := Lib.hid f5
    clear hA hf hk hcall h6 f6 htp f1 f2 f3 f4 f5
    go_wp2_with fail
    refine HCALL.out.mono ?_
    rintro e2 w2 ⟨rfl, c2⟩
    have HC2 := Lib.hid c2
    have HU2 := Lib.hid (HU.out.then_ c2)
    have HA2 := Lib.hid (HA.out.later c2)
    have HB2 := Lib.hid (Nat.le_trans hBr c2.size)
    have HK2 := Lib.hid (HK.out.trans (Keeps.of_below c2 (F := fun _ => False)) (fun j hj => hj.elim))
    clear c2 HCALL
    rcases Nat.eq_zero_or_pos gk with h0 | hpos
    · subst h0
      rw [Nat.sub_zero] at *
      obtain ⟨b1, b2⟩ := HBOX.out _ _ HU2.out
      obtain ⟨a3, cap3, hx3, hcap3, _⟩ := HA2.out.stackForm
      have HCUT := Lib.hid (stack_cut HA2.out (m := b.height) hx3 (by have := HHT.out; rw [F2.out]; omega))
      have hfr := HA2.out.frozen 1
      obtain ⟨_, d1, _⟩ := (show PAt w2 B bb ⟨xr.cv, xr.sv, xr.ov⟩ _ from HA2.out).cells
      rw [hx3] at d1
      have hsl := cut_stack a3 (levelS s b m).stack.length cap3 b.height (by have := HHT.out; have := F2.out; omega)
      obtain ⟨LN, hLN⟩ : ∃ LN, (levelS s b m).stack.length = LN := ⟨_, rfl⟩
      rw [hLN] at d1 hsl
      clear hx3 hLN hcap3
      go_wp2_with fail
      go_still_tail 10, (by kernel_rfl)
      change wpList _ _ _ _ _ w2.drew
      have d1d : w2.drew.cell? ⟨bb, 1, none⟩ = some (.slice a3 LN cap3) := d1
      have fzd : w2.drew.frozen? ⟨bb, 1, none⟩ = false := hfr
      go_wp2_with fail
      go_end0
      refine ⟨rfl, Upd.after HB0.out ?_⟩
      have hu := Upd.trans HF.out HK2.out HCUT.out
      rw [HEND.out] at hu
      exact hu.then_ (Below.refl _ _).drew
    · obtain ⟨gp, rfl⟩ : ∃ gp, gk = gp + 1 := ⟨gk - 1, by omega⟩
      have HJ := Lib.hid (show m - (gp + 1) + 1 = m - gp by omega)
      obtain ⟨b1, b2⟩ := HBOX.out _ _ HU2.out
      have HST := Lib.hid (level_drop (s := s) (b := b) (j := m - (gp + 1)) HR.out (by have := HRS.out; omega))
      go_wp2_with fail
      refine (put_any 26 0 0 w2 B bb xr _ HA2.out HB2.out (by have := F1.out; omega)).mono ?_
      rintro e3 w3 ⟨rfl, u3⟩
      have HU3 := Lib.hid (Upd.trans HF.out HK2.out u3)
      clear u3 b1 b2
      obtain ⟨x3, hA3, hf3, hk3⟩ := HU3.out
      have HA3 := Lib.hid hA3
      have HF3 := Lib.hid hf3
      have HK3 := Lib.hid hk3
      clear hA3 hf3 hk3
      go_wp2_with fail
      refine (take_any w3 B bb x3 _ HA3.out (show (levelS s b (m - (gp + 1))).stack.length < 1000000 by have := F3.out; omega) (show 0 < (levelS s b (m - (gp + 1))).stack.length by have := F2.out; have := HRS.out; omega)).mono ?_
      rintro e4 w4 ⟨rfl, u4⟩
      have hu4 := Upd.trans HF3.out HK3.out u4
      rw [HST.out, HJ.out] at hu4
      have HU4 := Lib.hid hu4
      clear u4 hu4
      go_wp2_with fail
      go_roundg gp
      case measure => omega
      case rel => exact ⟨by omega, HU4.out⟩
set_option maxRecDepth 100000 in
set_option maxHeartbeats 4000000 in
theorem level_126 (op : Int) (H : Nat) (w : World) (B bb : Nat) (x : Px) (s : St) (n : Nat) (hI : Inv s n) (hn : n ≤ 800000) (h : PAt w B bb x s) (hB : B ≤ w.heap.size) (hh : H = topH s) :
    Calls Tryz.prog 26 #[.pointer (some ⟨bb, 0, none⟩), .agg #[.int .i64 op, .int .u8 126, .int .i64 H]] w fun e w' => e = .returned (.tuple #[]) ∧ Upd w B bb x (levelP s ⟨op, 126, H⟩) w' := by
  obtain ⟨b, hb⟩ : ∃ b : Opn, (⟨op, 126, H⟩ : Opn) = b := ⟨_, rfl⟩
  have hbr : b.res = 126 := by rw [← hb]
  have hbh : b.height = topH s := by rw [← hb]; exact hh
  have hres : b.res = 64 ∨ b.res = 126 ∨ b.res = 127 := by omega
  have hmany : manyP b = 1 := by unfold manyP; rw [hbr]; rfl
  have hH : H = b.height := by rw [← hb]
  rw [hb, hH]
  rw [hH] at hh
  have hI2 := hI.ready hres
  have htop := hI2.top_le
  rw [ready_top] at htop
  have hsz := hI2.size
  have hml := many_le hI b
  have hhas : hasP (readyP s b) = (readyP s b).stack.length - topH s := by unfold hasP; rw [ready_top]
  obtain ⟨m, hm⟩ : ∃ m, m = hasP (readyP s b) - manyP b := ⟨_, rfl⟩
  have hms : topH s + m + 1 = (readyP s b).stack.length := by omega
  obtain ⟨w0, hw0⟩ : ∃ w0, w.alloc (.cells #[.int .i64 op, .int .u8 126, .int .i64 b.height] 95) = w0 := ⟨_, rfl⟩
  have B0 : Below w.heap.size w w0 := by rw [← hw0]; exact (Below.refl _ _).alloc (Nat.le_refl _) _
  have z0 : w0.heap.size = w.heap.size + 1 := by rw [← hw0]; simp
  have hbox : ∀ (s' : St) (wr : World), Upd w0 B bb x s' wr → wr.cell? ⟨w.heap.size, 1, none⟩ = some (.int .u8 126) ∧ wr.cell? ⟨w.heap.size, 2, none⟩ = some (.int .i64 b.height) := fun s' wr u => by
    rw [← hw0] at u
    exact ⟨Upd.box h u (by simp), Upd.box h u (by simp)⟩
  have H0 := Lib.hid (h.later B0)
  have HBOX := Lib.hid hbox
  have HB0 := Lib.hid B0
  have hB0 : B ≤ w0.heap.size := by omega
  have hU0 : Upd w0 B bb x s w0 := Upd.same H0.out
  obtain ⟨b1, b2⟩ := hbox _ _ hU0
  have HFACT := Lib.hid (show ∀ j, j ≤ m → (levelS s b j).code.length < 900000 ∧ (levelS s b j).stack.length = (readyP s b).stack.length - j ∧ (levelS s b j).stack.length < 900000 ∧ (levelS s b j).opens.length < 900000 ∧ topH (levelS s b j) = topH s ∧ hasP (levelS s b j) = m - j + 1 from fun j hj => by
    have hj2 : j + manyP b ≤ (readyP s b).stack.length := by omega
    obtain ⟨g1, g2⟩ := levelS_inv hI hres hj2
    have g3 : (levelS s b j).stack.length = (readyP s b).stack.length - j := stkS_len hj2
    have g4 := levelS_has hj2
    have g5 := hI.size
    refine ⟨by omega, g3, by omega, by rw [g2]; omega, by unfold topH; rw [g2], by rw [g4]; omega⟩)
  have HZ := Lib.hid (levelS_zero s b)
  have HEND := Lib.hid (levelS_end (s := s) (b := b) (j := m) hm (by omega) (by omega))
  have HHT := Lib.hid (show b.height + 1 = (readyP s b).stack.length - m by omega)
  have HRS := Lib.hid hms
  have HR := Lib.hid hbr
  have HRESW := Lib.hid (show readyP s b = wantP s 126 by unfold readyP; rw [hbr]; rw [if_neg (by decide)])
  clear hbox hsz hml hhas hm hms h hI2 htop hbr hb hh hH B0 hU0 hbh hres hmany
  go_enter Tryz.func26, Tryz.ntmps26
  go_wp2_with fail
  clear hw0
  refine (want_any 126 w0 B bb x s n hI (by omega) H0.out hB0 (by decide)).mono ?_
  rintro e1 w1 ⟨rfl, u1⟩
  have HU1 := Lib.hid (show Upd w0 B bb x (levelS s b 0) w1 by rw [HZ.out, HRESW.out]; exact u1)
  clear u1 b1 b2
  go_wp2_with fail
  go_loopg [13] m (fun gk p wr => gk ≤ m ∧ Upd w0 B bb x (levelS s b (m - gk)) wr)
  case atStart => exact ⟨Nat.le_refl _, by rw [Nat.sub_self]; exact HU1.out⟩
  case round =>
    obtain ⟨hgk, hU⟩ := hrel
    have HU := Lib.hid hU
    obtain ⟨xr, hA, hf, hk⟩ := hU
    obtain ⟨f1, f2, f3, f4, f5, f6⟩ := HFACT.out (m - gk) (by omega)
    have hBr : B ≤ wr.heap.size := Nat.le_trans hB0 hk.size
    have htp : topH (levelS s b (m - gk)) ≤ (levelS s b (m - gk)).stack.length := by have := HHT.out; have := HRS.out; rw [f5, f2]; omega
    have hcall := has_any wr B bb xr _ hA (by omega) (by omega) htp
    have h6 : hasP (levelS s b (m - gk)) = gk + 1 := by rw [f6]; omega
    rw [h6] at hcall
    have HA := Lib.hid hA
    have HF := Lib.hid hf
    have HK := Lib.hid hk
    have HCALL := Lib.hid hcall
    have F1 := Lib.hid f1
    have F2 := Lib.hid f2
    have F3 := Lib.hid f3
    have F4 := Lib.hid f4
    have F5 := Lib.hid f5
    clear hA hf hk hcall h6 f6 htp f1 f2 f3 f4 f5
    go_wp2_with fail
    refine HCALL.out.mono ?_
    rintro e2 w2 ⟨rfl, c2⟩
    have HC2 := Lib.hid c2
    have HU2 := Lib.hid (HU.out.then_ c2)
    have HA2 := Lib.hid (HA.out.later c2)
    have HB2 := Lib.hid (Nat.le_trans hBr c2.size)
    have HK2 := Lib.hid (HK.out.trans (Keeps.of_below c2 (F := fun _ => False)) (fun j hj => hj.elim))
    clear c2 HCALL
    rcases Nat.eq_zero_or_pos gk with h0 | hpos
    · subst h0
      rw [Nat.sub_zero] at *
      obtain ⟨b1, b2⟩ := HBOX.out _ _ HU2.out
      obtain ⟨a3, cap3, hx3, hcap3, _⟩ := HA2.out.stackForm
      have HCUT := Lib.hid (stack_cut HA2.out (m := b.height) hx3 (by have := HHT.out; rw [F2.out]; omega))
      have hfr := HA2.out.frozen 1
      obtain ⟨_, d1, _⟩ := (show PAt w2 B bb ⟨xr.cv, xr.sv, xr.ov⟩ _ from HA2.out).cells
      rw [hx3] at d1
      have hsl := cut_stack a3 (levelS s b m).stack.length cap3 b.height (by have := HHT.out; have := F2.out; omega)
      obtain ⟨LN, hLN⟩ : ∃ LN, (levelS s b m).stack.length = LN := ⟨_, rfl⟩
      rw [hLN] at d1 hsl
      clear hx3 hLN hcap3
      go_wp2_with fail
      go_still_tail 10, (by kernel_rfl)
      change wpList _ _ _ _ _ w2.drew
      have d1d : w2.drew.cell? ⟨bb, 1, none⟩ = some (.slice a3 LN cap3) := d1
      have fzd : w2.drew.frozen? ⟨bb, 1, none⟩ = false := hfr
      go_wp2_with fail
      go_end0
      refine ⟨rfl, Upd.after HB0.out ?_⟩
      have hu := Upd.trans HF.out HK2.out HCUT.out
      rw [HEND.out] at hu
      exact hu.then_ (Below.refl _ _).drew
    · obtain ⟨gp, rfl⟩ : ∃ gp, gk = gp + 1 := ⟨gk - 1, by omega⟩
      have HJ := Lib.hid (show m - (gp + 1) + 1 = m - gp by omega)
      obtain ⟨b1, b2⟩ := HBOX.out _ _ HU2.out
      have HST := Lib.hid (level_keep (s := s) (b := b) (j := m - (gp + 1)) (by rw [HR.out]; decide) (by have := HRS.out; omega))
      obtain ⟨i0, hi, hz0, hz1, hz2⟩ := info_of info_u8
      go_wp2_with fail
      refine (put_any 33 3 0 w2 B bb xr _ HA2.out HB2.out (by have := F1.out; omega)).mono ?_
      rintro e3 w3 ⟨rfl, u3⟩
      have HU3 := Lib.hid (Upd.trans HF.out HK2.out u3)
      clear u3 b1 b2
      obtain ⟨x3, hA3, hf3, hk3⟩ := HU3.out
      have HA3 := Lib.hid hA3
      have HF3 := Lib.hid hf3
      have HK3 := Lib.hid hk3
      clear hA3 hf3 hk3
      go_wp2_with fail
      refine (put_any 26 0 0 w3 B bb x3 _ HA3.out (Nat.le_trans hB0 HK3.out.size) (by have := F1.out; show ((levelS s b (m - (gp + 1))).code ++ [_]).length < _; rw [List.length_append]; simp; omega)).mono ?_
      rintro e4 w4 ⟨rfl, u4⟩
      have HU4 := Lib.hid (Upd.trans HF3.out HK3.out u4)
      clear u4
      obtain ⟨x4, hA4, hf4, hk4⟩ := HU4.out
      have HA4 := Lib.hid hA4
      have HF4 := Lib.hid hf4
      have HK4 := Lib.hid hk4
      obtain ⟨b1, b2⟩ := HBOX.out _ _ HU4.out
      clear hA4 hf4 hk4
      go_wp2_with fail
      refine (put_any 32 3 0 w4 B bb x4 _ HA4.out (Nat.le_trans hB0 HK4.out.size) (by have := F1.out; show (((levelS s b (m - (gp + 1))).code ++ [_]) ++ [_]).length < _; rw [List.length_append, List.length_append]; simp; omega)).mono ?_
      rintro e5 w5 ⟨rfl, u5⟩
      have HU5 := Lib.hid (Upd.trans HF4.out HK4.out u5)
      clear u5 b1 b2
      obtain ⟨⟨cv5, sv5, ov5⟩, hA5, hf5, hk5⟩ := HU5.out
      have HA5 := Lib.hid hA5
      have HF5 := Lib.hid hf5
      have HK5 := Lib.hid hk5
      obtain ⟨b1, b2⟩ := HBOX.out _ _ HU5.out
      obtain ⟨a5, cap5, hx5, hcap5, hform5⟩ := hA5.stackForm
      obtain ⟨LN, hLN⟩ : ∃ LN, (levelS s b (m - (gp + 1))).stack.length = LN + 2 := ⟨(levelS s b (m - (gp + 1))).stack.length - 2, by have := F2.out; have := HRS.out; omega⟩
      have hx6 : sv5 = .slice a5 (LN + 2) cap5 := by rw [← hLN]; exact hx5
      have hcap6 : LN + 2 ≤ cap5 := by rw [← hLN]; exact hcap5
      obtain ⟨g5, rfl, _, hg5l, _, _⟩ := hform5 (by show 0 < (levelS s b (m - (gp + 1))).stack.length; omega)
      subst hx6
      obtain ⟨_, d1, _⟩ := hA5.cells
      have hfr := hA5.frozen 1
      have hsl := cut_stack (some ⟨g5, 0, none⟩) (LN + 2) cap5 LN (by omega)
      have hLNs : LN < 1000000 := by have := F3.out; omega
      have hwl : IntKind.i64.wrap (LN : Int) = (LN : Int) := IntWalk.i64_in _ (by omega)
      have hrow := hA5.stk
      have hlen5 : (putP (putP (putP (levelS s b (m - (gp + 1))) 33 3 0) 26 0 0) 32 3 0).stack = (levelS s b (m - (gp + 1))).stack := rfl
      rw [hlen5, hLN] at hrow
      have hrow2 := ownsRow_take hrow (m := LN) (by omega)
      rw [Nat.mul_one, show (stackV (levelS s b (m - (gp + 1))).stack).take LN = stackV ((levelS s b (m - (gp + 1))).stack.take LN) by simp [stackV, List.map_take]] at hrow2
      have HROW := Lib.hid hrow2
      have hbl := hA5.lt
      have HNE := Lib.hid (show some g5 ≠ some bb from fun e => (hA5.rest.2.1 bb e).1 rfl)
      have HC4 := Lib.hid (show LN + 1 ≤ maxLen by unfold maxLen; omega)
      have HC5 := Lib.hid (show (LN + 1) * 1 ≤ 140737488355328 by omega)
      have HN := Lib.hid (news_at w5 #[.int .u8 126] 5 [.int .u8 126] rfl)
      have hk5s := hk5.size
      have HC6 := Lib.hid (show B ≤ (w5.alloc (.cells #[.int .u8 126] 5)).heap.size by simp; omega)
      have HROWS := Lib.hid (show ∀ o : Obj, (w5.alloc o).ownsRow B 5 1 (.slice (some ⟨g5, 0, none⟩) LN cap5) LN (stackV ((levelS s b (m - (gp + 1))).stack.take LN)) from fun o => HROW.out.alloc o)
      have hkl : w.heap.size < w5.heap.size := by omega
      have HLN := Lib.hid hLN
      have D1 := Lib.hid d1
      have HTL := Lib.hid (show ((levelS s b (m - (gp + 1))).stack.take LN ++ [126]).length = LN + 1 by rw [List.length_append, List.length_take, hLN]; simp)
      clear hA5 hf5 hk5 hx5 hform5 hcap5 hrow hrow2 hlen5 hLN hg5l
      go_wp2_with fail
      go_region_law ((refine step_append_own2 _ (by rfl) _ _ _ (by rfl) B 5 i0 (.int .u8 0) 1 1 Tryz.underlying83 hi hz0 hz1 hz2 rfl (by decide) (.slice (some ⟨g5, 0, none⟩) LN cap5) LN (stackV ((levelS s b (m - (gp + 1))).stack.take LN)) (by rfl) (HROWS.out _) ⟨w5.heap.size, 0, none⟩ 1 1 [.int .u8 126] (by rfl) rfl HN.out (by intro u hu; rw [List.mem_singleton.1 hu]; rfl) (by decide) HC4.out HC5.out HC6.out ?_; intro g' cap' w6 hown hgrow hnb; have cz : w6.cell? ⟨bb, 1, none⟩ = some (.slice (some ⟨g5, 0, none⟩) (LN + 2) cap5) := hgrow.cell (a := ⟨bb, 1, none⟩) ((World.cell?_alloc_past _ _ _ hbl).trans D1.out) (Ne.symm HNE.out); have fz1 : w6.frozen? ⟨bb, 1, none⟩ = false := (World.frozen?_of_block (a := ⟨bb, 1, none⟩) (hgrow.block bb (by simp; omega) (Ne.symm HNE.out))).trans ((World.frozen?_alloc_past _ _ _ hbl).trans hfr)))
      all_goals
        have hset := HA5.out.setStk (l := (levelS s b (m - (gp + 1))).stack.take LN ++ [126]) (drew_alloc hgrow) (by rw [stackV_snoc, HTL.out]; exact hown) (newBlock_mono hnb (by show w5.heap.size ≤ (w5.alloc _).heap.size; simp))
        have hu := Upd.trans HF5.out HK5.out hset
        have e9 : ({ putP (putP (putP (levelS s b (m - (gp + 1))) 33 3 0) 26 0 0) 32 3 0 with stack := (levelS s b (m - (gp + 1))).stack.take LN ++ [126] } : St) = levelS s b (m - gp) := by
          rw [← HJ.out, ← HST.out, HR.out, HLN.out]
          simp [putP, dropI]
        rw [e9] at hu
        have HU6 := Lib.hid hu
        clear hown hgrow hnb hset hu e9 b1 b2 d1
        go_wp2_with fail
        go_roundg gp
        case measure => omega
        case rel => exact ⟨by omega, HU6.out⟩
set_option maxRecDepth 100000 in
set_option maxHeartbeats 4000000 in
theorem level_127 (op : Int) (H : Nat) (w : World) (B bb : Nat) (x : Px) (s : St) (n : Nat) (hI : Inv s n) (hn : n ≤ 800000) (h : PAt w B bb x s) (hB : B ≤ w.heap.size) (hh : H = topH s) :
    Calls Tryz.prog 26 #[.pointer (some ⟨bb, 0, none⟩), .agg #[.int .i64 op, .int .u8 127, .int .i64 H]] w fun e w' => e = .returned (.tuple #[]) ∧ Upd w B bb x (levelP s ⟨op, 127, H⟩) w' := by
  obtain ⟨b, hb⟩ : ∃ b : Opn, (⟨op, 127, H⟩ : Opn) = b := ⟨_, rfl⟩
  have hbr : b.res = 127 := by rw [← hb]
  have hbh : b.height = topH s := by rw [← hb]; exact hh
  have hres : b.res = 64 ∨ b.res = 126 ∨ b.res = 127 := by omega
  have hmany : manyP b = 1 := by unfold manyP; rw [hbr]; rfl
  have hH : H = b.height := by rw [← hb]
  rw [hb, hH]
  rw [hH] at hh
  have hI2 := hI.ready hres
  have htop := hI2.top_le
  rw [ready_top] at htop
  have hsz := hI2.size
  have hml := many_le hI b
  have hhas : hasP (readyP s b) = (readyP s b).stack.length - topH s := by unfold hasP; rw [ready_top]
  obtain ⟨m, hm⟩ : ∃ m, m = hasP (readyP s b) - manyP b := ⟨_, rfl⟩
  have hms : topH s + m + 1 = (readyP s b).stack.length := by omega
  obtain ⟨w0, hw0⟩ : ∃ w0, w.alloc (.cells #[.int .i64 op, .int .u8 127, .int .i64 b.height] 95) = w0 := ⟨_, rfl⟩
  have B0 : Below w.heap.size w w0 := by rw [← hw0]; exact (Below.refl _ _).alloc (Nat.le_refl _) _
  have z0 : w0.heap.size = w.heap.size + 1 := by rw [← hw0]; simp
  have hbox : ∀ (s' : St) (wr : World), Upd w0 B bb x s' wr → wr.cell? ⟨w.heap.size, 1, none⟩ = some (.int .u8 127) ∧ wr.cell? ⟨w.heap.size, 2, none⟩ = some (.int .i64 b.height) := fun s' wr u => by
    rw [← hw0] at u
    exact ⟨Upd.box h u (by simp), Upd.box h u (by simp)⟩
  have H0 := Lib.hid (h.later B0)
  have HBOX := Lib.hid hbox
  have HB0 := Lib.hid B0
  have hB0 : B ≤ w0.heap.size := by omega
  have hU0 : Upd w0 B bb x s w0 := Upd.same H0.out
  obtain ⟨b1, b2⟩ := hbox _ _ hU0
  have HFACT := Lib.hid (show ∀ j, j ≤ m → (levelS s b j).code.length < 900000 ∧ (levelS s b j).stack.length = (readyP s b).stack.length - j ∧ (levelS s b j).stack.length < 900000 ∧ (levelS s b j).opens.length < 900000 ∧ topH (levelS s b j) = topH s ∧ hasP (levelS s b j) = m - j + 1 from fun j hj => by
    have hj2 : j + manyP b ≤ (readyP s b).stack.length := by omega
    obtain ⟨g1, g2⟩ := levelS_inv hI hres hj2
    have g3 : (levelS s b j).stack.length = (readyP s b).stack.length - j := stkS_len hj2
    have g4 := levelS_has hj2
    have g5 := hI.size
    refine ⟨by omega, g3, by omega, by rw [g2]; omega, by unfold topH; rw [g2], by rw [g4]; omega⟩)
  have HZ := Lib.hid (levelS_zero s b)
  have HEND := Lib.hid (levelS_end (s := s) (b := b) (j := m) hm (by omega) (by omega))
  have HHT := Lib.hid (show b.height + 1 = (readyP s b).stack.length - m by omega)
  have HRS := Lib.hid hms
  have HR := Lib.hid hbr
  have HRESW := Lib.hid (show readyP s b = wantP s 127 by unfold readyP; rw [hbr]; rw [if_neg (by decide)])
  clear hbox hsz hml hhas hm hms h hI2 htop hbr hb hh hH B0 hU0 hbh hres hmany
  go_enter Tryz.func26, Tryz.ntmps26
  go_wp2_with fail
  clear hw0
  refine (want_any 127 w0 B bb x s n hI (by omega) H0.out hB0 (by decide)).mono ?_
  rintro e1 w1 ⟨rfl, u1⟩
  have HU1 := Lib.hid (show Upd w0 B bb x (levelS s b 0) w1 by rw [HZ.out, HRESW.out]; exact u1)
  clear u1 b1 b2
  go_wp2_with fail
  go_loopg [13] m (fun gk p wr => gk ≤ m ∧ Upd w0 B bb x (levelS s b (m - gk)) wr)
  case atStart => exact ⟨Nat.le_refl _, by rw [Nat.sub_self]; exact HU1.out⟩
  case round =>
    obtain ⟨hgk, hU⟩ := hrel
    have HU := Lib.hid hU
    obtain ⟨xr, hA, hf, hk⟩ := hU
    obtain ⟨f1, f2, f3, f4, f5, f6⟩ := HFACT.out (m - gk) (by omega)
    have hBr : B ≤ wr.heap.size := Nat.le_trans hB0 hk.size
    have htp : topH (levelS s b (m - gk)) ≤ (levelS s b (m - gk)).stack.length := by have := HHT.out; have := HRS.out; rw [f5, f2]; omega
    have hcall := has_any wr B bb xr _ hA (by omega) (by omega) htp
    have h6 : hasP (levelS s b (m - gk)) = gk + 1 := by rw [f6]; omega
    rw [h6] at hcall
    have HA := Lib.hid hA
    have HF := Lib.hid hf
    have HK := Lib.hid hk
    have HCALL := Lib.hid hcall
    have F1 := Lib.hid f1
    have F2 := Lib.hid f2
    have F3 := Lib.hid f3
    have F4 := Lib.hid f4
    have F5 := Lib.hid f5
    clear hA hf hk hcall h6 f6 htp f1 f2 f3 f4 f5
    go_wp2_with fail
    refine HCALL.out.mono ?_
    rintro e2 w2 ⟨rfl, c2⟩
    have HC2 := Lib.hid c2
    have HU2 := Lib.hid (HU.out.then_ c2)
    have HA2 := Lib.hid (HA.out.later c2)
    have HB2 := Lib.hid (Nat.le_trans hBr c2.size)
    have HK2 := Lib.hid (HK.out.trans (Keeps.of_below c2 (F := fun _ => False)) (fun j hj => hj.elim))
    clear c2 HCALL
    rcases Nat.eq_zero_or_pos gk with h0 | hpos
    · subst h0
      rw [Nat.sub_zero] at *
      obtain ⟨b1, b2⟩ := HBOX.out _ _ HU2.out
      obtain ⟨a3, cap3, hx3, hcap3, _⟩ := HA2.out.stackForm
      have HCUT := Lib.hid (stack_cut HA2.out (m := b.height) hx3 (by have := HHT.out; rw [F2.out]; omega))
      have hfr := HA2.out.frozen 1
      obtain ⟨_, d1, _⟩ := (show PAt w2 B bb ⟨xr.cv, xr.sv, xr.ov⟩ _ from HA2.out).cells
      rw [hx3] at d1
      have hsl := cut_stack a3 (levelS s b m).stack.length cap3 b.height (by have := HHT.out; have := F2.out; omega)
      obtain ⟨LN, hLN⟩ : ∃ LN, (levelS s b m).stack.length = LN := ⟨_, rfl⟩
      rw [hLN] at d1 hsl
      clear hx3 hLN hcap3
      go_wp2_with fail
      go_still_tail 10, (by kernel_rfl)
      change wpList _ _ _ _ _ w2.drew
      have d1d : w2.drew.cell? ⟨bb, 1, none⟩ = some (.slice a3 LN cap3) := d1
      have fzd : w2.drew.frozen? ⟨bb, 1, none⟩ = false := hfr
      go_wp2_with fail
      go_end0
      refine ⟨rfl, Upd.after HB0.out ?_⟩
      have hu := Upd.trans HF.out HK2.out HCUT.out
      rw [HEND.out] at hu
      exact hu.then_ (Below.refl _ _).drew
    · obtain ⟨gp, rfl⟩ : ∃ gp, gk = gp + 1 := ⟨gk - 1, by omega⟩
      have HJ := Lib.hid (show m - (gp + 1) + 1 = m - gp by omega)
      obtain ⟨b1, b2⟩ := HBOX.out _ _ HU2.out
      have HST := Lib.hid (level_keep (s := s) (b := b) (j := m - (gp + 1)) (by rw [HR.out]; decide) (by have := HRS.out; omega))
      obtain ⟨i0, hi, hz0, hz1, hz2⟩ := info_of info_u8
      go_wp2_with fail
      refine (put_any 33 2 0 w2 B bb xr _ HA2.out HB2.out (by have := F1.out; omega)).mono ?_
      rintro e3 w3 ⟨rfl, u3⟩
      have HU3 := Lib.hid (Upd.trans HF.out HK2.out u3)
      clear u3 b1 b2
      obtain ⟨x3, hA3, hf3, hk3⟩ := HU3.out
      have HA3 := Lib.hid hA3
      have HF3 := Lib.hid hf3
      have HK3 := Lib.hid hk3
      clear hA3 hf3 hk3
      go_wp2_with fail
      refine (put_any 26 0 0 w3 B bb x3 _ HA3.out (Nat.le_trans hB0 HK3.out.size) (by have := F1.out; show ((levelS s b (m - (gp + 1))).code ++ [_]).length < _; rw [List.length_append]; simp; omega)).mono ?_
      rintro e4 w4 ⟨rfl, u4⟩
      have HU4 := Lib.hid (Upd.trans HF3.out HK3.out u4)
      clear u4
      obtain ⟨x4, hA4, hf4, hk4⟩ := HU4.out
      have HA4 := Lib.hid hA4
      have HF4 := Lib.hid hf4
      have HK4 := Lib.hid hk4
      obtain ⟨b1, b2⟩ := HBOX.out _ _ HU4.out
      clear hA4 hf4 hk4
      go_wp2_with fail
      refine (put_any 32 2 0 w4 B bb x4 _ HA4.out (Nat.le_trans hB0 HK4.out.size) (by have := F1.out; show (((levelS s b (m - (gp + 1))).code ++ [_]) ++ [_]).length < _; rw [List.length_append, List.length_append]; simp; omega)).mono ?_
      rintro e5 w5 ⟨rfl, u5⟩
      have HU5 := Lib.hid (Upd.trans HF4.out HK4.out u5)
      clear u5 b1 b2
      obtain ⟨⟨cv5, sv5, ov5⟩, hA5, hf5, hk5⟩ := HU5.out
      have HA5 := Lib.hid hA5
      have HF5 := Lib.hid hf5
      have HK5 := Lib.hid hk5
      obtain ⟨b1, b2⟩ := HBOX.out _ _ HU5.out
      obtain ⟨a5, cap5, hx5, hcap5, hform5⟩ := hA5.stackForm
      obtain ⟨LN, hLN⟩ : ∃ LN, (levelS s b (m - (gp + 1))).stack.length = LN + 2 := ⟨(levelS s b (m - (gp + 1))).stack.length - 2, by have := F2.out; have := HRS.out; omega⟩
      have hx6 : sv5 = .slice a5 (LN + 2) cap5 := by rw [← hLN]; exact hx5
      have hcap6 : LN + 2 ≤ cap5 := by rw [← hLN]; exact hcap5
      obtain ⟨g5, rfl, _, hg5l, _, _⟩ := hform5 (by show 0 < (levelS s b (m - (gp + 1))).stack.length; omega)
      subst hx6
      obtain ⟨_, d1, _⟩ := hA5.cells
      have hfr := hA5.frozen 1
      have hsl := cut_stack (some ⟨g5, 0, none⟩) (LN + 2) cap5 LN (by omega)
      have hLNs : LN < 1000000 := by have := F3.out; omega
      have hwl : IntKind.i64.wrap (LN : Int) = (LN : Int) := IntWalk.i64_in _ (by omega)
      have hrow := hA5.stk
      have hlen5 : (putP (putP (putP (levelS s b (m - (gp + 1))) 33 2 0) 26 0 0) 32 2 0).stack = (levelS s b (m - (gp + 1))).stack := rfl
      rw [hlen5, hLN] at hrow
      have hrow2 := ownsRow_take hrow (m := LN) (by omega)
      rw [Nat.mul_one, show (stackV (levelS s b (m - (gp + 1))).stack).take LN = stackV ((levelS s b (m - (gp + 1))).stack.take LN) by simp [stackV, List.map_take]] at hrow2
      have HROW := Lib.hid hrow2
      have hbl := hA5.lt
      have HNE := Lib.hid (show some g5 ≠ some bb from fun e => (hA5.rest.2.1 bb e).1 rfl)
      have HC4 := Lib.hid (show LN + 1 ≤ maxLen by unfold maxLen; omega)
      have HC5 := Lib.hid (show (LN + 1) * 1 ≤ 140737488355328 by omega)
      have HN := Lib.hid (news_at w5 #[.int .u8 127] 5 [.int .u8 127] rfl)
      have hk5s := hk5.size
      have HC6 := Lib.hid (show B ≤ (w5.alloc (.cells #[.int .u8 127] 5)).heap.size by simp; omega)
      have HROWS := Lib.hid (show ∀ o : Obj, (w5.alloc o).ownsRow B 5 1 (.slice (some ⟨g5, 0, none⟩) LN cap5) LN (stackV ((levelS s b (m - (gp + 1))).stack.take LN)) from fun o => HROW.out.alloc o)
      have hkl : w.heap.size < w5.heap.size := by omega
      have HLN := Lib.hid hLN
      have D1 := Lib.hid d1
      have HTL := Lib.hid (show ((levelS s b (m - (gp + 1))).stack.take LN ++ [127]).length = LN + 1 by rw [List.length_append, List.length_take, hLN]; simp)
      clear hA5 hf5 hk5 hx5 hform5 hcap5 hrow hrow2 hlen5 hLN hg5l
      go_wp2_with fail
      go_region_law ((refine step_append_own2 _ (by rfl) _ _ _ (by rfl) B 5 i0 (.int .u8 0) 1 1 Tryz.underlying83 hi hz0 hz1 hz2 rfl (by decide) (.slice (some ⟨g5, 0, none⟩) LN cap5) LN (stackV ((levelS s b (m - (gp + 1))).stack.take LN)) (by rfl) (HROWS.out _) ⟨w5.heap.size, 0, none⟩ 1 1 [.int .u8 127] (by rfl) rfl HN.out (by intro u hu; rw [List.mem_singleton.1 hu]; rfl) (by decide) HC4.out HC5.out HC6.out ?_; intro g' cap' w6 hown hgrow hnb; have cz : w6.cell? ⟨bb, 1, none⟩ = some (.slice (some ⟨g5, 0, none⟩) (LN + 2) cap5) := hgrow.cell (a := ⟨bb, 1, none⟩) ((World.cell?_alloc_past _ _ _ hbl).trans D1.out) (Ne.symm HNE.out); have fz1 : w6.frozen? ⟨bb, 1, none⟩ = false := (World.frozen?_of_block (a := ⟨bb, 1, none⟩) (hgrow.block bb (by simp; omega) (Ne.symm HNE.out))).trans ((World.frozen?_alloc_past _ _ _ hbl).trans hfr)))
      all_goals
        have hset := HA5.out.setStk (l := (levelS s b (m - (gp + 1))).stack.take LN ++ [127]) (drew_alloc hgrow) (by rw [stackV_snoc, HTL.out]; exact hown) (newBlock_mono hnb (by show w5.heap.size ≤ (w5.alloc _).heap.size; simp))
        have hu := Upd.trans HF5.out HK5.out hset
        have e9 : ({ putP (putP (putP (levelS s b (m - (gp + 1))) 33 2 0) 26 0 0) 32 2 0 with stack := (levelS s b (m - (gp + 1))).stack.take LN ++ [127] } : St) = levelS s b (m - gp) := by
          rw [← HJ.out, ← HST.out, HR.out, HLN.out]
          simp [putP, dropI]
        rw [e9] at hu
        have HU6 := Lib.hid hu
        clear hown hgrow hnb hset hu e9 b1 b2 d1
        go_wp2_with fail
        go_roundg gp
        case measure => omega
        case rel => exact ⟨by omega, HU6.out⟩
theorem level_any (b : Opn) (w : World) (B bb : Nat) (x : Px) (s : St) (n : Nat) (hI : Inv s n) (hn : n ≤ 800000) (h : PAt w B bb x s) (hB : B ≤ w.heap.size) (hres : b.res = 64 ∨ b.res = 126 ∨ b.res = 127) (hh : b.height = topH s) :
    Calls Tryz.prog 26 #[.pointer (some ⟨bb, 0, none⟩), .agg #[.int .i64 b.op, .int .u8 (b.res : Int), .int .i64 b.height]] w fun e w' => e = .returned (.tuple #[]) ∧ Upd w B bb x (levelP s b) w' := by
  obtain ⟨op, res, H⟩ := b
  rcases hres with hr | hr | hr
  · have hr2 : res = 64 := hr
    subst hr2
    exact level_64 op H w B bb x s n hI hn h hB hh
  · have hr2 : res = 126 := hr
    subst hr2
    exact level_126 op H w B bb x s n hI hn h hB hh
  · have hr2 : res = 127 := hr
    subst hr2
    exact level_127 op H w B bb x s n hI hn h hB hh
end Go.Proofs.YtmbgemcddjailaaGreatDoor.Pg
