/-
  What the reference's Put of chapter 17 does. No condition beyond what each theorem names.
-/
import Derived.Test.YtlbgbpgjccbbjaaDoorAsmR
import Derived.Test.YtlbgbpgjccbbjaaDoorOpRefG
import Derived.Deep.RegionLaw
namespace Go.Proofs.YtlbgbpgjccbbjaaDoor.Asm
open Go.RowKit Go.Maps Go.Proofs.YtlbgbpgjccbbjaaDoor.Op
set_option linter.unusedVariables false
theorem rcode_end {w W0 w1 : World} {B bb : Nat} {P : ByteArray} {cv ov v' : Value} {s : St} {o : Obj} {x : Ins} (hA : RAt W0 B bb P ⟨cv, ov⟩ s) (hb : Below w.heap.size w W0) (g : (W0.alloc o).drew.grownBy w1 cv.ownBlock) (own : w1.ownsRow B 36 4 v' (s.code.length + 1) (codeV s.code ++ x.cells)) (hnb : newBlock cv v' (W0.alloc o).drew) : RUpd w B bb P ⟨cv, ov⟩ { s with code := s.code ++ [x] } (w1.setCell ⟨bb, 2, none⟩ v') :=
  (hA.setCod (drew_alloc g) (by rw [codeV_snoc, List.length_append]; exact own) (newBlock_mono hnb (by show W0.heap.size ≤ (W0.alloc o).heap.size; simp))).after hb
set_option maxRecDepth 100000 in
set_option maxHeartbeats 8000000 in
theorem rput_plain (nm : ByteArray) (a b : Int) (w : World) (B bb : Nat) (P : ByteArray) (x : Rx) (s : St) (h : RAt w B bb P x s) (hB : B ≤ w.heap.size) (hl : s.code.length < 1000000) (c : Int) (hc : codeOf nm.data.toList = some c) (hsp : specialB c = false) (r : Bool) (hr : rightB c a b [] = r) :
    Calls Tryd.prog 49 #[.pointer (some ⟨bb, 0, none⟩), .string nm, .int .i64 a, .int .i64 b] w fun e w' => e = .returned (.int .i64 (opAns r)) ∧ RUpd w B bb P x (opSt s c a b r) w' := by
  obtain ⟨i0, hi, hz0, hz1, hz2⟩ := info_of info_ins
  obtain ⟨cv, ov⟩ := x
  have H0 := Lib.hid h
  have HC := Lib.hid hc
  have HR := Lib.hid hr
  have hcr := code_range hc
  simp only [specialB, Bool.or_eq_false_iff, beq_eq_false_iff_ne] at hsp
  obtain ⟨⟨⟨⟨⟨⟨⟨q2, q3⟩, q4⟩, q5⟩, q11⟩, q12⟩, q13⟩, q14⟩ := hsp
  have hq : c < 2 ∨ (5 < c ∧ c < 11) ∨ 14 < c := by omega
  clear h hc hr q2 q3 q4 q5 q11 q12 q13 q14 hcr
  rcases hq with hq | ⟨hq, hq2⟩ | hq
  all_goals
    go_enter Tryd.func49, Tryd.ntmps49
    go_wp2_with fail
    refine (rcode_any nm w c true (by rw [HC.out]; rfl) (by rw [HC.out]; rfl)).mono ?_
    rintro e w1 ⟨rfl, c1⟩
    have C1 := Lib.hid c1
    have BW := Lib.hid ((Below.refl w1.heap.size w1).alloc (Nat.le_refl _) (.cells #[.int .i64 c, .int .i64 a, .int .i64 b, .slice none 0 0] 36))
    clear c1
    go_wp2_with fail
    refine (rright_nil c a b none 0 _).mono ?_
    rintro e W2 ⟨rfl, c2⟩
    rw [HR.out]
    have r0 : W2.cell? ⟨w1.heap.size, 0, none⟩ = some (.int .i64 c) := cell_later c2 (by simp)
    have r1 : W2.cell? ⟨w1.heap.size, 1, none⟩ = some (.int .i64 a) := cell_later c2 (by simp)
    have r2 : W2.cell? ⟨w1.heap.size, 2, none⟩ = some (.int .i64 b) := cell_later c2 (by simp)
    have r3 : W2.cell? ⟨w1.heap.size, 3, none⟩ = some (.slice none 0 0) := cell_later c2 (by simp)
    have BW2 := Lib.hid (C1.out.trans ((BW.out.trans (c2.mono BW.out.size)).mono C1.out.size))
    have hpl : w1.heap.size < W2.heap.size := by have := c2.size; simp at this; omega
    clear c2
    cases r
    · go_wp2_with fail
      go_ret
      exact ⟨rfl, RUpd.below H0.out BW2.out⟩
    · have HA := Lib.hid (H0.out.later BW2.out)
      obtain ⟨_, _, k2, _⟩ := HA.out.cells
      have hbl : bb < W2.heap.size := HA.out.lt
      have fz := HA.out.frozen
      have HCD := Lib.hid (show ∀ o : Obj, (W2.alloc o).ownsRow B 36 4 cv s.code.length (codeV s.code) from fun o => HA.out.cod.alloc o)
      have HL := Lib.hid (show s.code.length + 1 ≤ maxLen by unfold maxLen; omega)
      have HY := Lib.hid (show (s.code.length + 1) * 48 ≤ 140737488355328 by omega)
      have HZ := Lib.hid (show B ≤ (W2.alloc (.cells (Ins.cells ⟨c, a, b⟩).toArray 36)).heap.size by have := BW2.out.size; simp; omega)
      have HN := Lib.hid (news_at W2 (Ins.cells ⟨c, a, b⟩).toArray 36 (Ins.cells ⟨c, a, b⟩) rfl)
      have HNE := Lib.hid (show cv.ownBlock ≠ some bb from fun e => (HA.out.rest.1 bb e).1 rfl)
      go_wp2_with fail
      go_region_law ((refine step_append_own2 _ (by rfl) _ _ _ (by rfl) B 36 i0 zeroIns 4 48 Tryd.underlying49 hi hz0 hz1 hz2 rfl (by decide) cv s.code.length (codeV s.code) (by rfl) (HCD.out _) ⟨W2.heap.size, 0, none⟩ 1 1 (Ins.cells ⟨c, a, b⟩) (by rfl) rfl HN.out (one_ins _) (by decide) HL.out HY.out HZ.out ?_; intro g' cap' w3 hown hgrow hnb; have cz : w3.cell? ⟨bb, 2, none⟩ = some cv := hgrow.cell (a := ⟨bb, 2, none⟩) ((World.cell?_alloc_past _ _ _ hbl).trans k2) (Ne.symm HNE.out); have fz1 : w3.frozen? ⟨bb, 2, none⟩ = false := (World.frozen?_of_block (a := ⟨bb, 2, none⟩) (hgrow.block bb (by simp; omega) (Ne.symm HNE.out))).trans ((World.frozen?_alloc_past _ _ _ hbl).trans (fz 2))))
      all_goals
        have HU := Lib.hid (rcode_end HA.out BW2.out hgrow hown hnb)
        clear hgrow hown hnb
        go_wp2_with fail
        go_ret
        exact ⟨rfl, HU.out⟩
set_option maxRecDepth 100000 in
set_option maxHeartbeats 2000000 in
theorem rput_none (nm : ByteArray) (a b : Int) (w : World) (bv : Value) (hc : codeOf nm.data.toList = none) :
    Calls Tryd.prog 49 #[bv, .string nm, .int .i64 a, .int .i64 b] w fun e w' => e = .returned (.int .i64 1) ∧ Below w.heap.size w w' := by
  have HC := Lib.hid hc
  clear hc
  go_enter Tryd.func49, Tryd.ntmps49
  go_wp2_with fail
  refine (rcode_any nm w 0 false (by rw [HC.out]; rfl) (by rw [HC.out]; rfl)).mono ?_
  rintro e w1 ⟨rfl, c1⟩
  have C1 := Lib.hid c1
  clear c1
  go_wp2_with fail
  go_ret
  exact ⟨rfl, C1.out⟩
set_option maxRecDepth 100000 in
set_option maxHeartbeats 2000000 in
theorem rput_special (nm : ByteArray) (a b : Int) (w : World) (bv : Value) (c : Int) (hc : codeOf nm.data.toList = some c) (hsp : specialB c = true) :
    Calls Tryd.prog 49 #[bv, .string nm, .int .i64 a, .int .i64 b] w fun e w' => e = .returned (.int .i64 1) ∧ Below w.heap.size w w' := by
  have HC := Lib.hid hc
  have hq : (2 ≤ c ∧ c ≤ 5) ∨ (11 ≤ c ∧ c ≤ 14) := by simp [specialB] at hsp; omega
  clear hc hsp
  rcases hq with ⟨h1, h2⟩ | ⟨h1, h2⟩
  all_goals
    go_enter Tryd.func49, Tryd.ntmps49
    go_wp2_with fail
    refine (rcode_any nm w c true (by rw [HC.out]; rfl) (by rw [HC.out]; rfl)).mono ?_
    rintro e w1 ⟨rfl, c1⟩
    have C1 := Lib.hid c1
    clear c1
    go_wp2_with fail
    go_ret
    exact ⟨rfl, C1.out⟩
end Go.Proofs.YtlbgbpgjccbbjaaDoor.Asm
