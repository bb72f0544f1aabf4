/-
  What a program's jumps does. No condition beyond what each theorem names.
-/
import Derived.Test.YtofepnojhghnnaaGreatDoorPgD
namespace Go.Proofs.YtofepnojhghnnaaGreatDoor.Pg
open Go.RowKit Go.Maps Go.Proofs.YtofepnojhghnnaaGreatDoor.Op Go.Proofs.YtofepnojhghnnaaGreatDoor.Mod
set_option linter.unusedVariables false
/-- a block's cells -/
theorem PAt.atOpen {w : World} {B bb : Nat} {x : Px} {s : St} (h : PAt w B bb x s) {q : Nat} {b : Opn} (hs : s.opens[q]? = some b) : ∃ g cap, x.ov = .slice (some ⟨g, 0, none⟩) s.opens.length cap ∧ g < w.heap.size ∧ w.cell? ⟨g, q * 3, none⟩ = some (.int .i64 b.op) ∧ w.cell? ⟨g, q * 3 + 1, none⟩ = some (.int .u8 (b.res : Int)) ∧ w.cell? ⟨g, q * 3 + 2, none⟩ = some (.int .i64 (b.height : Int)) := by
  have hope := h.ope
  have hq := (List.getElem?_eq_some_iff.1 hs).1
  obtain ⟨g, cap, hf⟩ := Go.Joins.ownsRow_form hope (by omega)
  rw [hf] at hope
  have hat : ∀ j, j < 3 → w.cell? ⟨g, q * 3 + j, none⟩ = b.cells[j]? := fun j hj => by
    rw [hope.cellAt _ (by omega), openV_at s.opens q j b hs hj]
  exact ⟨g, cap, hf, (hope.lt g rfl).2, hat 0 (by decide), hat 1 (by decide), hat 2 (by decide)⟩
set_option maxRecDepth 100000 in
theorem jumps_none (k : Nat) (w : World) (B bb : Nat) (x : Px) (s : St) (h : PAt w B bb x s) (h0 : s.opens = []) :
    Calls Tryz.prog 65 #[.pointer (some ⟨bb, 0, none⟩), .int .i64 (k : Int)] w fun e w' => e = .returned (.tuple #[]) ∧ Upd w B bb x (jumpsP s k) w' := by
  have hj : jumpsP s k = s := by unfold jumpsP; rw [h0]; rfl
  rw [hj]
  obtain ⟨a, cap, hx, _⟩ := opens_form h
  rw [h0] at hx
  obtain ⟨cv, sv, ov⟩ := x
  have hx2 : ov = .slice a 0 cap := hx
  subst hx2
  obtain ⟨_, _, c2⟩ := h.cells
  have H := Lib.hid h
  clear h hx hj
  go_enter Tryz.func65, Tryz.ntmps65
  go_wp2_with fail
  refine bodyPost_ret (results_none rfl _ _ _) rfl ⟨rfl, ?_⟩
  exact Upd.same H.out
set_option maxRecDepth 100000 in
set_option maxHeartbeats 4000000 in
theorem jumps_some (k : Nat) (w : World) (B bb : Nat) (x : Px) (s : St) (n : Nat) (hI : Inv s n) (hn : n ≤ 800000) (h : PAt w B bb x s) (hB : B ≤ w.heap.size) (h0 : 0 < s.opens.length) (hk : k < 256) :
    Calls Tryz.prog 65 #[.pointer (some ⟨bb, 0, none⟩), .int .i64 (k : Int)] w fun e w' => e = .returned (.tuple #[]) ∧ Upd w B bb x (jumpsP s k) w' := by
  obtain ⟨q1, q2, q3⟩ := hI.bounds (by omega)
  obtain ⟨r, hr⟩ : ∃ r, k % s.opens.length = r := ⟨_, rfl⟩
  have hrl : r < s.opens.length := by rw [← hr]; exact Nat.mod_lt _ h0
  obtain ⟨q, hq⟩ : ∃ q, s.opens.length = q + 1 + r := ⟨s.opens.length - 1 - r, by omega⟩
  obtain ⟨b, hb⟩ : ∃ b, s.opens[q]? = some b := ⟨_, List.getElem?_eq_getElem (by omega)⟩
  have hj : jumpsP s k = if b.res ≠ 64 ∧ b.op ≠ 3 then s else takeP (putP (wantP s 127) 13 (r : Int) 0) := by
    unfold jumpsP
    rw [hr]
    have : s.opens.reverse[r]? = some b := by
      rw [List.getElem?_reverse hrl, show s.opens.length - 1 - r = q by omega, hb]
    rw [this]
  obtain ⟨J, hJ⟩ : ∃ J, jumpsP s k = J := ⟨_, rfl⟩
  rw [hJ]
  have HJ := Lib.hid (hJ.symm.trans hj)
  clear hJ
  obtain ⟨o1, o2⟩ := hI.os b (List.mem_of_getElem? hb)
  obtain ⟨g, cap, hx, hgl, d0, d1, d2⟩ := h.atOpen hb
  have HW := Lib.hid (hI.want (k := 127) (.inr rfl))
  have HHW := Lib.hid (has_want hI 127)
  obtain ⟨cv, sv, ov⟩ := x
  have hx2 : ov = .slice (some ⟨g, 0, none⟩) (q + 1 + r) cap := by rw [← hq]; exact hx
  subst hx2
  obtain ⟨_, _, c2⟩ := h.cells
  have hbl := h.lt
  have H := Lib.hid h
  have HI := Lib.hid hI
  have hm1 : (k : Int) % ((q : Int) + 1 + (r : Int)) = (r : Int) := by
    have : ((k % s.opens.length : Nat) : Int) = (r : Int) := by rw [hr]
    rw [hq] at this
    simpa using this
  have hm2 : (k : Int).tmod ((q : Int) + 1 + (r : Int)) = (r : Int) := by rw [Int.tmod_eq_emod_of_nonneg (by omega)]; exact hm1
  have hq0 : ¬ ((q : Int) + 1 + (r : Int)) = 0 := by omega
  have hq00 : (((q : Int) + 1 + (r : Int)) == 0) = false := beq_eq_false_iff_ne.2 hq0
  have hw1 : IntKind.i64.wrap ((q : Int) + 1 + (r : Int) - 1) = (q : Int) + (r : Int) := by rw [show (q : Int) + 1 + (r : Int) - 1 = (q : Int) + (r : Int) by omega]; exact IntWalk.i64_in _ (by omega)
  have hw2 : IntKind.i64.wrap ((q : Int) + (r : Int) - (r : Int)) = (q : Int) := by rw [show (q : Int) + (r : Int) - (r : Int) = (q : Int) by omega]; exact IntWalk.i64_in _ (by omega)
  have hi0 : (0 : Int) ≤ (q : Int) := by omega
  have hi1 : (q : Int) < (q : Int) + 1 + (r : Int) := by omega
  have hw3 : IntKind.i64.wrap (q : Int) = (q : Int) := IntWalk.i64_in _ (by omega)
  have hres : b.res < 256 := by omega
  clear h hI hx hb hj hr hrl q1 q2 hq
  go_enter Tryz.func65, Tryz.ntmps65
  go_wp2_with fail
  go_region
  all_goals
    go_upto_region 3 with fail
    obtain ⟨W1, hW1⟩ : ∃ W1, (w.alloc (.cells #[.int .i64 b.op, .int .u8 (b.res : Int), .int .i64 (b.height : Int)] 65)).drew = W1 := ⟨_, rfl⟩
    have B1 : Below w.heap.size w W1 := by rw [← hW1]; exact ((Below.refl _ _).alloc (Nat.le_refl _) _).drew
    have z1 : w.heap.size < W1.heap.size := by rw [← hW1]; show _ < (w.alloc _).heap.size; simp
    have y0 : W1.cell? ⟨w.heap.size, 0, none⟩ = some (.int .i64 b.op) := by rw [← hW1]; show (w.alloc _).cell? _ = _; simp
    have y1 : W1.cell? ⟨w.heap.size, 1, none⟩ = some (.int .u8 (b.res : Int)) := by rw [← hW1]; show (w.alloc _).cell? _ = _; simp
    rw [hW1]
    have HB1 := Lib.hid B1
    clear hW1 c2 d0 d1 d2 B1
    by_cases h64 : b.res = 64
    · have t1 : ((b.res : Int) != 64) = false := by rw [h64]; rfl
      have HJ := Lib.hid (HJ.out.trans (if_neg (fun t => t.1 h64)))
      clear h64
      go_wp2_with fail
      refine (want_any 127 W1 B bb _ s n HI.out (by omega) (H.out.later HB1.out) (Nat.le_trans hB HB1.out.size) (.inr rfl)).mono ?_
      rintro e2 w2 ⟨rfl, u2⟩
      have HU2 := Lib.hid (Upd.after HB1.out u2)
      clear u2 y0 y1
      obtain ⟨x2, hA2, hf2, hk2⟩ := HU2.out
      have HP := Lib.hid (put_any 13 (r : Int) 0 w2 B bb x2 _ hA2 (Nat.le_trans hB hk2.size) (by have := HW.out.size; omega))
      have HF2 := Lib.hid hf2
      have HK2 := Lib.hid hk2
      clear hA2 hf2 hk2
      go_wp2_with fail
      refine HP.out.mono ?_
      rintro e3 w3 ⟨rfl, u3⟩
      have HU3 := Lib.hid (Upd.trans HF2.out HK2.out u3)
      clear u3 HP
      obtain ⟨x3, hA3, hf3, hk3⟩ := HU3.out
      have HT := Lib.hid (take_any w3 B bb x3 _ hA3 (show (wantP s 127).stack.length < 1000000 by have := HW.out.size; omega) (show 0 < (wantP s 127).stack.length by have := HHW.out; unfold hasP at this; omega))
      have HF3 := Lib.hid hf3
      have HK3 := Lib.hid hk3
      clear hA3 hf3 hk3
      go_wp2_with fail
      refine HT.out.mono ?_
      rintro e4 w4 ⟨rfl, u4⟩
      have HU4 := Lib.hid (Upd.trans HF3.out HK3.out u4)
      clear u4
      go_wp2_with fail
      go_end0
      exact ⟨rfl, by rw [HJ.out]; exact HU4.out⟩
    · have t1 : ((b.res : Int) != 64) = true := bne_iff_ne.2 (by omega)
      by_cases h3 : b.op = 3
      · have t2 : (b.op != 3) = false := by rw [h3]; rfl
        have HJ := Lib.hid (HJ.out.trans (if_neg (fun t => t.2 h3)))
        clear h64 h3
        go_wp2_with fail
        refine (want_any 127 W1 B bb _ s n HI.out (by omega) (H.out.later HB1.out) (Nat.le_trans hB HB1.out.size) (.inr rfl)).mono ?_
        rintro e2 w2 ⟨rfl, u2⟩
        have HU2 := Lib.hid (Upd.after HB1.out u2)
        clear u2 y0 y1
        obtain ⟨x2, hA2, hf2, hk2⟩ := HU2.out
        have HP := Lib.hid (put_any 13 (r : Int) 0 w2 B bb x2 _ hA2 (Nat.le_trans hB hk2.size) (by have := HW.out.size; omega))
        have HF2 := Lib.hid hf2
        have HK2 := Lib.hid hk2
        clear hA2 hf2 hk2
        go_wp2_with fail
        refine HP.out.mono ?_
        rintro e3 w3 ⟨rfl, u3⟩
        have HU3 := Lib.hid (Upd.trans HF2.out HK2.out u3)
        clear u3 HP
        obtain ⟨x3, hA3, hf3, hk3⟩ := HU3.out
        have HT := Lib.hid (take_any w3 B bb x3 _ hA3 (show (wantP s 127).stack.length < 1000000 by have := HW.out.size; omega) (show 0 < (wantP s 127).stack.length by have := HHW.out; unfold hasP at this; omega))
        have HF3 := Lib.hid hf3
        have HK3 := Lib.hid hk3
        clear hA3 hf3 hk3
        go_wp2_with fail
        refine HT.out.mono ?_
        rintro e4 w4 ⟨rfl, u4⟩
        have HU4 := Lib.hid (Upd.trans HF3.out HK3.out u4)
        clear u4
        go_wp2_with fail
        go_end0
        exact ⟨rfl, by rw [HJ.out]; exact HU4.out⟩
      · have t2 : (b.op != 3) = true := bne_iff_ne.2 h3
        have HJ := Lib.hid (HJ.out.trans (if_pos ⟨h64, h3⟩))
        clear h64 h3
        go_wp2_with fail
        refine bodyPost_ret (results_none rfl _ _ _) rfl ⟨rfl, ?_⟩
        rw [HJ.out]
        exact Upd.below H.out HB1.out
theorem jumps_any (k : Nat) (w : World) (B bb : Nat) (x : Px) (s : St) (n : Nat) (hI : Inv s n) (hn : n ≤ 800000) (h : PAt w B bb x s) (hB : B ≤ w.heap.size) (hk : k < 256) :
    Calls Tryz.prog 65 #[.pointer (some ⟨bb, 0, none⟩), .int .i64 (k : Int)] w fun e w' => e = .returned (.tuple #[]) ∧ Upd w B bb x (jumpsP s k) w' := by
  by_cases h0 : s.opens = []
  · exact jumps_none k w B bb x s h h0
  · exact jumps_some k w B bb x s n hI hn h hB (List.length_pos_iff.2 h0) hk
end Go.Proofs.YtofepnojhghnnaaGreatDoor.Pg
