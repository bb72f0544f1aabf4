/-
  DecRfB, DecRfC, DecRfD, DecRfN in one.
-/
import Derived.Test.YteidhccnbfikcaaGreatDoorDecRfA
import Derived.Test.YteidhccnbfikcaaGreatDoorDeP
import Derived.Test.YteidhccnbfikcaaGreatDoorOpRefF2
import Derived.Test.YteidhccnbfikcaaGreatDoorRg
import Derived.Test.YteidhccnbfikcaaGreatDoorDeM
/- DecRfB: What the document's own instr of chapter 6 reads. No condition beyond what each theorem names. -/
namespace Go.Proofs.YteidhccnbfikcaaGreatDoor.Dec
open Go.RowKit Go.Maps Go.Proofs.YteidhccnbfikcaaGreatDoor.Op Go.Proofs.YteidhccnbfikcaaGreatDoor.Mod Go.Proofs.YteidhccnbfikcaaGreatDoor.Leb Go.Proofs.YteidhccnbfikcaaGreatDoor.Enc
set_option linter.unusedVariables false
set_option linter.unusedSimpArgs false
variable {w w' W W' : World} {rb en xb : Nat} {S : ByteArray} {r r' : RS} {box : Array Value}
/-- what the document's instr answers: an instruction, its labels in memory of its own; the one that is read, if there is no error -/
def GotF (w : World) (rb en : Nat) (S : ByteArray) (X : InsL) (Q : RS) (e : Ending) (w' : World) : Prop := ∃ (x : InsL) (lv : Value), e = .returned (.agg #[.int .i64 x.op, .int .i64 x.a, .int .i64 x.b, lv]) ∧ OwnAt w' w.heap.size 3 1 lv (cellsI x.labels) ∧ x.labels.length ≤ 4096 ∧ (Q.e = 0 → x = X) ∧ RfAt w' rb S en Q ∧ Kr rb w w'
/-- the reader, and the result's box -/
structure XE (w : World) (rb en : Nat) (S : ByteArray) (r : RS) (W : World) : Prop where
  rd : RfAt W rb S en r
  row0 : W.heap[w.heap.size]? = some (.cells #[.int .i64 0, .int .i64 0, .int .i64 0, .slice none 0 0] 33 (0, 0))
  keep : Kr rb w W
  lt : rb < w.heap.size
theorem XE.size (h : XE w rb en S r W) : w.heap.size < W.heap.size := (Array.getElem?_eq_some_iff.1 h.row0).1
theorem XE.step (h : XE w rb en S r W) (h2 : RfAt W' rb S en r') (k : Kr rb W W') : XE w rb en S r' W' :=
  ⟨h2, (k.block w.heap.size h.size (fun e => by have := h.lt; omega)).trans h.row0, kr_trans h.keep k, h.lt⟩
theorem XE.later (h : XE w rb en S r W) (c : Below W.heap.size W W') : XE w rb en S r W' := h.step (h.rd.later c) (.of_below c)
theorem XE.new (h : RfAt w rb S en r) : XE w rb en S r (w.alloc (.cells #[.int .i64 0, .int .i64 0, .int .i64 0, .slice none 0 0] 33)) :=
  ⟨h.later ((Below.refl _ _).alloc (Nat.le_refl _) _), heap_alloc_new _ _, .of_below ((Below.refl _ _).alloc (Nat.le_refl _) _), h.lt⟩
theorem XE.cell (h : XE w rb en S r W) (j : Nat) (v : Value) (hv : (#[.int .i64 0, .int .i64 0, .int .i64 0, .slice none 0 0] : Array Value)[j]? = some v) : W.cell? ⟨w.heap.size, j, none⟩ = some v := by rw [cell_of_row W w.heap.size j _ _ _ h.row0]; exact hv
theorem XE.fz (h : XE w rb en S r W) (j : Nat) : W.frozen? ⟨w.heap.size, j, none⟩ = false := frozen_of_row W w.heap.size j _ _ h.row0
/-- the reader, the result's box, the instruction's box -/
structure XF (w : World) (rb en xb : Nat) (S : ByteArray) (box : Array Value) (r : RS) (W : World) : Prop where
  base : XE w rb en S r W
  row : W.heap[xb]? = some (.cells box 33 (0, 0))
  gt : w.heap.size < xb
theorem XF.step (h : XF w rb en xb S box r W) (h2 : RfAt W' rb S en r') (k : Kr rb W W') : XF w rb en xb S box r' W' :=
  ⟨h.base.step h2 k, (k.block xb (Array.getElem?_eq_some_iff.1 h.row).1 (fun e => by have := h.base.lt; have := h.gt; omega)).trans h.row, h.gt⟩
theorem XF.later (h : XF w rb en xb S box r W) (c : Below W.heap.size W W') : XF w rb en xb S box r W' := h.step (h.base.rd.later c) (.of_below c)
theorem XF.set (h : XF w rb en xb S box r W) (j : Nat) (u : Value) : XF w rb en xb S (box.setIfInBounds j u) r (W.setCell ⟨xb, j, none⟩ u) := by
  have k : Keeps (fun i => i = xb) W (W.setCell ⟨xb, j, none⟩ u) := Keeps.setCell _ _ _ rfl
  have hl := h.base.lt
  have hg := h.gt
  exact ⟨⟨h.base.rd.kept k (by omega), (k.block w.heap.size h.base.size (by omega)).trans h.base.row0, h.base.keep.trans k (fun i hi => .inr (by omega)), hl⟩, box_set h.row j u, hg⟩
theorem XF.cell (h : XF w rb en xb S box r W) (j : Nat) (v : Value) (hv : box[j]? = some v) : W.cell? ⟨xb, j, none⟩ = some v := by rw [cell_of_row W xb j _ _ _ h.row]; exact hv
theorem XF.fz (h : XF w rb en xb S box r W) (j : Nat) : W.frozen? ⟨xb, j, none⟩ = false := frozen_of_row W xb j _ _ h.row
theorem xe_put {W9 : World} (h : XE w rb en S r W) (u0 u1 u2 u3 : Value) (hW : (((W.setCell ⟨w.heap.size, 0, none⟩ u0).setCell ⟨w.heap.size, 1, none⟩ u1).setCell ⟨w.heap.size, 2, none⟩ u2).setCell ⟨w.heap.size, 3, none⟩ u3 = W9) : W9.heap[w.heap.size]? = some (.cells #[u0, u1, u2, u3] 33 (0, 0)) ∧ RfAt W9 rb S en r ∧ Kr rb w W9 ∧ Keeps (fun j => j = w.heap.size) W W9 := by
  have h4 := set4 W w.heap.size _ _ _ _ u0 u1 u2 u3 _ h.row0
  rw [hW] at h4
  have hl := h.lt
  exact ⟨h4.1, h.rd.kept h4.2 (by omega), h.keep.trans h4.2 (fun i hi => .inr (by omega)), h4.2⟩
set_option maxRecDepth 100000 in
set_option maxHeartbeats 4000000 in
theorem rfi_e (h : RfAt w rb S en r) {B : Nat} {q : RS} (hb : oneP (cutS S en) r = (B, q)) (he : q.e ≠ 0) :
    Calls Tryz.prog 90 #[.pointer (some ⟨rb, 0, none⟩)] w (GotF w rb en S zeroX q) := by
  have HE := Lib.hid he
  clear he
  have X1 := Lib.hid (XE.new h)
  have HONE := Lib.hid (rf_one _ X1.out.rd hb)
  clear h hb
  go_enter Tryz.func90, Tryz.ntmps90
  go_upto_region 1 with fail
  obtain ⟨W1, hW1⟩ : ∃ W1, w.alloc (.cells #[.int .i64 0, .int .i64 0, .int .i64 0, .slice none 0 0] 33) = W1 := ⟨_, rfl⟩
  rw [hW1] at HONE X1 ⊢
  clear hW1
  go_wp2_with fail
  refine HONE.out.mono ?_
  rintro e w2 ⟨rfl, h2, k2⟩
  have X2 := Lib.hid (X1.out.step h2 k2)
  have a3 := h2.c3
  clear h2 k2
  obtain ⟨p, er⟩ := q
  have hne : (er == 0) = false := beq_eq_false_iff_ne.2 HE.out
  have hne2 : (er != 0) = true := bne_iff_ne.2 HE.out
  dsimp only at a3
  have f0 := X2.out.fz 0
  have f1 := X2.out.fz 1
  have f2 := X2.out.fz 2
  have f3 := X2.out.fz 3
  have t0 := X2.out.cell 0 (.int .i64 0) rfl
  have t1 := X2.out.cell 1 (.int .i64 0) rfl
  have t2 := X2.out.cell 2 (.int .i64 0) rfl
  have t3 := X2.out.cell 3 (.slice none 0 0) rfl
  obtain ⟨W20, hW20⟩ : ∃ W20, (((w2.setCell ⟨w.heap.size, 0, none⟩ (.int .i64 0)).setCell ⟨w.heap.size, 1, none⟩ (.int .i64 0)).setCell ⟨w.heap.size, 2, none⟩ (.int .i64 0)).setCell ⟨w.heap.size, 3, none⟩ (.slice none 0 0) = W20 := ⟨_, rfl⟩
  have hput := xe_put X2.out _ _ _ _ hW20
  have HP := Lib.hid hput
  have HW20 := Lib.hid hW20
  have r0 : W20.cell? ⟨w.heap.size, 0, none⟩ = some (.int .i64 0) := cell_of_row W20 _ 0 _ _ _ hput.1
  have r1 : W20.cell? ⟨w.heap.size, 1, none⟩ = some (.int .i64 0) := cell_of_row W20 _ 1 _ _ _ hput.1
  have r2 : W20.cell? ⟨w.heap.size, 2, none⟩ = some (.int .i64 0) := cell_of_row W20 _ 2 _ _ _ hput.1
  have r3 : W20.cell? ⟨w.heap.size, 3, none⟩ = some (.slice none 0 0) := cell_of_row W20 _ 3 _ _ _ hput.1
  clear hW20 hput
  go_wp2_with fail
  rw [HW20.out]
  (try simp only [Exit.inBlock, Exit.then])
  refine bodyPost_ret (v := .agg #[.int .i64 0, .int .i64 0, .int .i64 0, .slice none 0 0]) (by simp [results, Tryz.results90, go_sem, r0, r1, r2, r3]) rfl ?_
  exact ⟨zeroX, _, rfl, own_nil _ _ _ _, Nat.zero_le _, fun _ => rfl, HP.out.2.1, HP.out.2.2.1⟩
set_option maxRecDepth 100000 in
set_option maxHeartbeats 4000000 in
theorem rfi_f (h : RfAt w rb S en r) {B : Nat} {q : RS} (hb : oneP (cutS S en) r = (B, q)) (hq : q.e = 0) (hfl : floatB (B : Int) = true) :
    Calls Tryz.prog 90 #[.pointer (some ⟨rb, 0, none⟩)] w (GotF w rb en S zeroX ⟨q.pos, 3⟩) := by
  have HQE := Lib.hid hq
  clear hq
  have X1 := Lib.hid (XE.new h)
  have HONE := Lib.hid (rf_one _ X1.out.rd hb)
  clear h hb
  go_enter Tryz.func90, Tryz.ntmps90
  go_upto_region 1 with fail
  obtain ⟨W1, hW1⟩ : ∃ W1, w.alloc (.cells #[.int .i64 0, .int .i64 0, .int .i64 0, .slice none 0 0] 33) = W1 := ⟨_, rfl⟩
  rw [hW1] at HONE X1 ⊢
  clear hW1
  go_wp2_with fail
  refine HONE.out.mono ?_
  rintro e w2 ⟨rfl, h2, k2⟩
  have X2 := Lib.hid (X1.out.step h2 k2)
  have a3 := h2.c3
  clear h2 k2
  rw [HQE.out] at a3
  go_wp2_with fail
  refine (rfloat_any (B : Int) w2).mono ?_
  rintro e w3 ⟨rfl, rfl⟩
  rw [hfl]
  have f3 := X2.out.rd.fz 3
  have hS := X2.out.rd.setE 3
  obtain ⟨W4, hW4⟩ : ∃ W4, w2.setCell ⟨rb, 3, none⟩ (.int .i64 3) = W4 := ⟨_, rfl⟩
  rw [hW4] at hS
  have X4 := Lib.hid (X2.out.step hS (by rw [← hW4]; exact kr_set _ _ _ _))
  have HW4 := Lib.hid hW4
  clear hW4 hS
  go_upto_region 7 with fail
  rw [HW4.out]
  clear a3 f3
  have f0 := X4.out.fz 0
  have f1 := X4.out.fz 1
  have f2 := X4.out.fz 2
  have f3 := X4.out.fz 3
  have t0 := X4.out.cell 0 (.int .i64 0) rfl
  have t1 := X4.out.cell 1 (.int .i64 0) rfl
  have t2 := X4.out.cell 2 (.int .i64 0) rfl
  have t3 := X4.out.cell 3 (.slice none 0 0) rfl
  obtain ⟨W20, hW20⟩ : ∃ W20, (((W4.setCell ⟨w.heap.size, 0, none⟩ (.int .i64 0)).setCell ⟨w.heap.size, 1, none⟩ (.int .i64 0)).setCell ⟨w.heap.size, 2, none⟩ (.int .i64 0)).setCell ⟨w.heap.size, 3, none⟩ (.slice none 0 0) = W20 := ⟨_, rfl⟩
  have hput := xe_put X4.out _ _ _ _ hW20
  have HP := Lib.hid hput
  have HW20 := Lib.hid hW20
  have r0 : W20.cell? ⟨w.heap.size, 0, none⟩ = some (.int .i64 0) := cell_of_row W20 _ 0 _ _ _ hput.1
  have r1 : W20.cell? ⟨w.heap.size, 1, none⟩ = some (.int .i64 0) := cell_of_row W20 _ 1 _ _ _ hput.1
  have r2 : W20.cell? ⟨w.heap.size, 2, none⟩ = some (.int .i64 0) := cell_of_row W20 _ 2 _ _ _ hput.1
  have r3 : W20.cell? ⟨w.heap.size, 3, none⟩ = some (.slice none 0 0) := cell_of_row W20 _ 3 _ _ _ hput.1
  clear hW20 hput
  go_wp2_with fail
  rw [HW20.out]
  (try simp only [Exit.inBlock, Exit.then])
  refine bodyPost_ret (v := .agg #[.int .i64 0, .int .i64 0, .int .i64 0, .slice none 0 0]) (by simp [results, Tryz.results90, go_sem, r0, r1, r2, r3]) rfl ?_
  exact ⟨zeroX, _, rfl, own_nil _ _ _ _, Nat.zero_le _, fun _ => rfl, HP.out.2.1, HP.out.2.2.1⟩
set_option maxRecDepth 100000 in
set_option maxHeartbeats 4000000 in
theorem rfi_t (h : RfAt w rb S en r) {B : Nat} {q : RS} (hb : oneP (cutS S en) r = (B, q)) (hq : q.e = 0) (hfl : floatB (B : Int) = false) (h17 : B = 17) :
    Calls Tryz.prog 90 #[.pointer (some ⟨rb, 0, none⟩)] w (GotF w rb en S zeroX ⟨q.pos, 3⟩) := by
  have hq17 : ((B : Int) == 17) = true := by rw [h17]; rfl
  clear h17
  have HQE := Lib.hid hq
  clear hq
  have X1 := Lib.hid (XE.new h)
  have HONE := Lib.hid (rf_one _ X1.out.rd hb)
  clear h hb
  go_enter Tryz.func90, Tryz.ntmps90
  go_upto_region 1 with fail
  obtain ⟨W1, hW1⟩ : ∃ W1, w.alloc (.cells #[.int .i64 0, .int .i64 0, .int .i64 0, .slice none 0 0] 33) = W1 := ⟨_, rfl⟩
  rw [hW1] at HONE X1 ⊢
  clear hW1
  go_wp2_with fail
  refine HONE.out.mono ?_
  rintro e w2 ⟨rfl, h2, k2⟩
  have X2 := Lib.hid (X1.out.step h2 k2)
  have a3 := h2.c3
  clear h2 k2
  rw [HQE.out] at a3
  go_wp2_with fail
  refine (rfloat_any (B : Int) w2).mono ?_
  rintro e w3 ⟨rfl, rfl⟩
  rw [hfl]
  have f3 := X2.out.rd.fz 3
  have hS := X2.out.rd.setE 3
  obtain ⟨W4, hW4⟩ : ∃ W4, w2.setCell ⟨rb, 3, none⟩ (.int .i64 3) = W4 := ⟨_, rfl⟩
  rw [hW4] at hS
  have X4 := Lib.hid (X2.out.step hS (by rw [← hW4]; exact kr_set _ _ _ _))
  have HW4 := Lib.hid hW4
  clear hW4 hS
  go_upto_region 7 with fail
  rw [HW4.out]
  clear a3 f3
  have f0 := X4.out.fz 0
  have f1 := X4.out.fz 1
  have f2 := X4.out.fz 2
  have f3 := X4.out.fz 3
  have t0 := X4.out.cell 0 (.int .i64 0) rfl
  have t1 := X4.out.cell 1 (.int .i64 0) rfl
  have t2 := X4.out.cell 2 (.int .i64 0) rfl
  have t3 := X4.out.cell 3 (.slice none 0 0) rfl
  obtain ⟨W20, hW20⟩ : ∃ W20, (((W4.setCell ⟨w.heap.size, 0, none⟩ (.int .i64 0)).setCell ⟨w.heap.size, 1, none⟩ (.int .i64 0)).setCell ⟨w.heap.size, 2, none⟩ (.int .i64 0)).setCell ⟨w.heap.size, 3, none⟩ (.slice none 0 0) = W20 := ⟨_, rfl⟩
  have hput := xe_put X4.out _ _ _ _ hW20
  have HP := Lib.hid hput
  have HW20 := Lib.hid hW20
  have r0 : W20.cell? ⟨w.heap.size, 0, none⟩ = some (.int .i64 0) := cell_of_row W20 _ 0 _ _ _ hput.1
  have r1 : W20.cell? ⟨w.heap.size, 1, none⟩ = some (.int .i64 0) := cell_of_row W20 _ 1 _ _ _ hput.1
  have r2 : W20.cell? ⟨w.heap.size, 2, none⟩ = some (.int .i64 0) := cell_of_row W20 _ 2 _ _ _ hput.1
  have r3 : W20.cell? ⟨w.heap.size, 3, none⟩ = some (.slice none 0 0) := cell_of_row W20 _ 3 _ _ _ hput.1
  clear hW20 hput
  go_wp2_with fail
  rw [HW20.out]
  (try simp only [Exit.inBlock, Exit.then])
  refine bodyPost_ret (v := .agg #[.int .i64 0, .int .i64 0, .int .i64 0, .slice none 0 0]) (by simp [results, Tryz.results90, go_sem, r0, r1, r2, r3]) rfl ?_
  exact ⟨zeroX, _, rfl, own_nil _ _ _ _, Nat.zero_le _, fun _ => rfl, HP.out.2.1, HP.out.2.2.1⟩
set_option maxRecDepth 100000 in
set_option maxHeartbeats 4000000 in
theorem rfi_u (h : RfAt w rb S en r) {B : Nat} {q : RS} (hb : oneP (cutS S en) r = (B, q)) (hq : q.e = 0) (hfl : floatB (B : Int) = false) (h17 : B ≠ 17) (nm : ByteArray) (sh : Int) (ps rs : ByteArray) (hi : (opInfo (B : Int)).getD zeroI = ⟨nm, sh, ps, rs⟩) (hsm : (opInfo (B : Int)).isSome = false) :
    Calls Tryz.prog 90 #[.pointer (some ⟨rb, 0, none⟩)] w (GotF w rb en S zeroX ⟨q.pos, 2⟩) := by
  have hq17 : ((B : Int) == 17) = false := beq_eq_false_iff_ne.2 (by omega)
  have HQE := Lib.hid hq
  have HI := Lib.hid hi
  have HS := Lib.hid hsm
  clear hq h17 hi hsm
  have X1 := Lib.hid (XE.new h)
  have HONE := Lib.hid (rf_one _ X1.out.rd hb)
  clear h hb
  go_enter Tryz.func90, Tryz.ntmps90
  go_upto_region 1 with fail
  obtain ⟨W1, hW1⟩ : ∃ W1, w.alloc (.cells #[.int .i64 0, .int .i64 0, .int .i64 0, .slice none 0 0] 33) = W1 := ⟨_, rfl⟩
  rw [hW1] at HONE X1 ⊢
  clear hW1
  go_wp2_with fail
  refine HONE.out.mono ?_
  rintro e w2 ⟨rfl, h2, k2⟩
  have X2 := Lib.hid (X1.out.step h2 k2)
  have a3 := h2.c3
  clear h2 k2
  rw [HQE.out] at a3
  go_wp2_with fail
  refine (rfloat_any (B : Int) w2).mono ?_
  rintro e w3 ⟨rfl, rfl⟩
  rw [hfl]
  go_wp2_with fail
  refine (rof_any (B : Int) w2 nm ps rs sh false HI.out HS.out).mono ?_
  rintro e w5 ⟨rfl, c5⟩
  have X5 := Lib.hid (X2.out.later c5)
  clear c5 a3
  go_upto_region 9 with fail
  obtain ⟨W6, hW6⟩ : ∃ W6, w5.alloc (.cells #[.string nm, .int .i64 sh, .string ps, .string rs] 121) = W6 := ⟨_, rfl⟩
  have B6 : Below w5.heap.size w5 W6 := by rw [← hW6]; exact (Below.refl _ _).alloc (Nat.le_refl _) _
  have i1 := cell_of_row W6 _ 1 _ _ _ (show W6.heap[w5.heap.size]? = some (.cells #[.string nm, .int .i64 sh, .string ps, .string rs] 121 (0, 0)) by rw [← hW6]; exact heap_alloc_new _ _)
  have X6 := Lib.hid (X5.out.later B6)
  have z6 : w5.heap.size < W6.heap.size := by rw [← hW6]; simp
  have n6 : w.heap.size < w5.heap.size := X5.out.size
  rw [hW6]
  clear hW6 B6
  have a3 := X6.out.rd.c3
  rw [HQE.out] at a3
  have f3 := X6.out.rd.fz 3
  have hS := X6.out.rd.setE 2
  obtain ⟨W7, hW7⟩ : ∃ W7, W6.setCell ⟨rb, 3, none⟩ (.int .i64 2) = W7 := ⟨_, rfl⟩
  rw [hW7] at hS
  have X7 := Lib.hid (X6.out.step hS (by rw [← hW7]; exact kr_set _ _ _ _))
  have HW7 := Lib.hid hW7
  clear hW7 hS i1 z6 n6
  go_upto_region 11 with fail
  rw [HW7.out]
  clear a3 f3
  have f0 := X7.out.fz 0
  have f1 := X7.out.fz 1
  have f2 := X7.out.fz 2
  have f3 := X7.out.fz 3
  have t0 := X7.out.cell 0 (.int .i64 0) rfl
  have t1 := X7.out.cell 1 (.int .i64 0) rfl
  have t2 := X7.out.cell 2 (.int .i64 0) rfl
  have t3 := X7.out.cell 3 (.slice none 0 0) rfl
  obtain ⟨W20, hW20⟩ : ∃ W20, (((W7.setCell ⟨w.heap.size, 0, none⟩ (.int .i64 0)).setCell ⟨w.heap.size, 1, none⟩ (.int .i64 0)).setCell ⟨w.heap.size, 2, none⟩ (.int .i64 0)).setCell ⟨w.heap.size, 3, none⟩ (.slice none 0 0) = W20 := ⟨_, rfl⟩
  have hput := xe_put X7.out _ _ _ _ hW20
  have HP := Lib.hid hput
  have HW20 := Lib.hid hW20
  have r0 : W20.cell? ⟨w.heap.size, 0, none⟩ = some (.int .i64 0) := cell_of_row W20 _ 0 _ _ _ hput.1
  have r1 : W20.cell? ⟨w.heap.size, 1, none⟩ = some (.int .i64 0) := cell_of_row W20 _ 1 _ _ _ hput.1
  have r2 : W20.cell? ⟨w.heap.size, 2, none⟩ = some (.int .i64 0) := cell_of_row W20 _ 2 _ _ _ hput.1
  have r3 : W20.cell? ⟨w.heap.size, 3, none⟩ = some (.slice none 0 0) := cell_of_row W20 _ 3 _ _ _ hput.1
  clear hW20 hput
  go_wp2_with fail
  rw [HW20.out]
  (try simp only [Exit.inBlock, Exit.then])
  refine bodyPost_ret (v := .agg #[.int .i64 0, .int .i64 0, .int .i64 0, .slice none 0 0]) (by simp [results, Tryz.results90, go_sem, r0, r1, r2, r3]) rfl ?_
  exact ⟨zeroX, _, rfl, own_nil _ _ _ _, Nat.zero_le _, fun _ => rfl, HP.out.2.1, HP.out.2.2.1⟩
set_option maxRecDepth 100000 in
set_option maxHeartbeats 4000000 in
theorem rfi_s0 (h : RfAt w rb S en r) {B : Nat} {q : RS} (hb : oneP (cutS S en) r = (B, q)) (hfl : floatB (B : Int) = false) (h17 : B ≠ 17) (nm ps rs : ByteArray) (hi : (opInfo (B : Int)).getD zeroI = ⟨nm, 0, ps, rs⟩) (hsm : (opInfo (B : Int)).isSome = true) (hq : q.e = 0)  :
    Calls Tryz.prog 90 #[.pointer (some ⟨rb, 0, none⟩)] w (GotF w rb en S ⟨(B : Int), 0, 0, []⟩ q) := by
  have hq17 : ((B : Int) == 17) = false := beq_eq_false_iff_ne.2 (by omega)
  have HQE := Lib.hid hq
  have HI := Lib.hid hi
  have HS := Lib.hid hsm
  clear h17 hq hi hsm
  have X1 := Lib.hid (XE.new h)
  have HONE := Lib.hid (rf_one _ X1.out.rd hb)
  clear h hb
  go_enter Tryz.func90, Tryz.ntmps90
  go_upto_region 1 with fail
  obtain ⟨W1, hW1⟩ : ∃ W1, w.alloc (.cells #[.int .i64 0, .int .i64 0, .int .i64 0, .slice none 0 0] 33) = W1 := ⟨_, rfl⟩
  rw [hW1] at HONE X1 ⊢
  clear hW1
  go_wp2_with fail
  refine HONE.out.mono ?_
  rintro e w2 ⟨rfl, h2, k2⟩
  have X2 := Lib.hid (X1.out.step h2 k2)
  have a3 := h2.c3
  clear h2 k2
  rw [HQE.out] at a3
  go_wp2_with fail
  refine (rfloat_any (B : Int) w2).mono ?_
  rintro e w3 ⟨rfl, rfl⟩
  rw [hfl]
  go_wp2_with fail
  refine (rof_any (B : Int) w2 nm ps rs 0 true HI.out HS.out).mono ?_
  rintro e w5 ⟨rfl, c5⟩
  have X5 := Lib.hid (X2.out.later c5)
  clear c5 a3
  go_upto_region 9 with fail
  obtain ⟨W6, hW6⟩ : ∃ W6, w5.alloc (.cells #[.string nm, .int .i64 0, .string ps, .string rs] 121) = W6 := ⟨_, rfl⟩
  have B6 : Below w5.heap.size w5 W6 := by rw [← hW6]; exact (Below.refl _ _).alloc (Nat.le_refl _) _
  have i1 := cell_of_row W6 _ 1 _ _ _ (show W6.heap[w5.heap.size]? = some (.cells #[.string nm, .int .i64 0, .string ps, .string rs] 121 (0, 0)) by rw [← hW6]; exact heap_alloc_new _ _)
  have X6 := Lib.hid (X5.out.later B6)
  have z6 : w5.heap.size < W6.heap.size := by rw [← hW6]; simp
  have n6 : w.heap.size < w5.heap.size := X5.out.size
  rw [hW6]
  clear hW6 B6
  go_upto_region 13 with fail
  obtain ⟨W8, hW8⟩ : ∃ W8, W6.alloc (.cells #[.int .i64 (B : Int), .int .i64 0, .int .i64 0, .slice none 0 0] 33) = W8 := ⟨_, rfl⟩
  have B8 : Below W6.heap.size W6 W8 := by rw [← hW8]; exact (Below.refl _ _).alloc (Nat.le_refl _) _
  have X8 := Lib.hid (show XF w rb en W6.heap.size S #[.int .i64 (B : Int), .int .i64 0, .int .i64 0, .slice none 0 0] q W8 from ⟨X6.out.later B8, by rw [← hW8]; exact heap_alloc_new _ _, by omega⟩)
  replace i1 := cell_later B8 i1
  rw [hW8]
  clear hW8 B8 n6
  generalize W6.heap.size = xb at *
  have b0 := X8.out.cell 0 (.int .i64 (B : Int)) rfl
  have b1 := X8.out.cell 1 (.int .i64 0) rfl
  have b2 := X8.out.cell 2 (.int .i64 0) rfl
  have b3 := X8.out.cell 3 (.slice none 0 0) rfl
  have f0 := X8.out.base.fz 0
  have f1 := X8.out.base.fz 1
  have f2 := X8.out.base.fz 2
  have f3 := X8.out.base.fz 3
  have t0 := X8.out.base.cell 0 (.int .i64 0) rfl
  have t1 := X8.out.base.cell 1 (.int .i64 0) rfl
  have t2 := X8.out.base.cell 2 (.int .i64 0) rfl
  have t3 := X8.out.base.cell 3 (.slice none 0 0) rfl
  obtain ⟨W20, hW20⟩ : ∃ W20, (((W8.setCell ⟨w.heap.size, 0, none⟩ (.int .i64 (B : Int))).setCell ⟨w.heap.size, 1, none⟩ (.int .i64 0)).setCell ⟨w.heap.size, 2, none⟩ (.int .i64 0)).setCell ⟨w.heap.size, 3, none⟩ (.slice none 0 0) = W20 := ⟨_, rfl⟩
  have hput := xe_put X8.out.base _ _ _ _ hW20
  have HP := Lib.hid hput
  have HW20 := Lib.hid hW20
  have r0 : W20.cell? ⟨w.heap.size, 0, none⟩ = some (.int .i64 (B : Int)) := cell_of_row W20 _ 0 _ _ _ hput.1
  have r1 : W20.cell? ⟨w.heap.size, 1, none⟩ = some (.int .i64 0) := cell_of_row W20 _ 1 _ _ _ hput.1
  have r2 : W20.cell? ⟨w.heap.size, 2, none⟩ = some (.int .i64 0) := cell_of_row W20 _ 2 _ _ _ hput.1
  have r3 : W20.cell? ⟨w.heap.size, 3, none⟩ = some (.slice none 0 0) := cell_of_row W20 _ 3 _ _ _ hput.1
  clear hW20 hput
  go_wp2_with fail
  rw [HW20.out]
  (try simp only [Exit.inBlock, Exit.then])
  refine bodyPost_ret (v := .agg #[.int .i64 (B : Int), .int .i64 0, .int .i64 0, .slice none 0 0]) (by simp [results, Tryz.results90, go_sem, r0, r1, r2, r3]) rfl ?_
  exact ⟨⟨(B : Int), 0, 0, []⟩, _, rfl, own_nil _ _ _ _, Nat.zero_le _, fun _ => rfl, HP.out.2.1, HP.out.2.2.1⟩
set_option maxRecDepth 100000 in
set_option maxHeartbeats 4000000 in
theorem rfi_s2 (h : RfAt w rb S en r) {B : Nat} {q : RS} (hb : oneP (cutS S en) r = (B, q)) (hfl : floatB (B : Int) = false) (h17 : B ≠ 17) (nm ps rs : ByteArray) (hi : (opInfo (B : Int)).getD zeroI = ⟨nm, 2, ps, rs⟩) (hsm : (opInfo (B : Int)).isSome = true) (hq : q.e = 0) {n : Int} {Q : RS} (hn : numberP (cutS S en) q = (n, Q)) :
    Calls Tryz.prog 90 #[.pointer (some ⟨rb, 0, none⟩)] w (GotF w rb en S ⟨(B : Int), n, 0, []⟩ Q) := by
  have HN := Lib.hid hn
  clear hn
  have hq17 : ((B : Int) == 17) = false := beq_eq_false_iff_ne.2 (by omega)
  have HQE := Lib.hid hq
  have HI := Lib.hid hi
  have HS := Lib.hid hsm
  clear h17 hq hi hsm
  have X1 := Lib.hid (XE.new h)
  have HONE := Lib.hid (rf_one _ X1.out.rd hb)
  clear h hb
  go_enter Tryz.func90, Tryz.ntmps90
  go_upto_region 1 with fail
  obtain ⟨W1, hW1⟩ : ∃ W1, w.alloc (.cells #[.int .i64 0, .int .i64 0, .int .i64 0, .slice none 0 0] 33) = W1 := ⟨_, rfl⟩
  rw [hW1] at HONE X1 ⊢
  clear hW1
  go_wp2_with fail
  refine HONE.out.mono ?_
  rintro e w2 ⟨rfl, h2, k2⟩
  have X2 := Lib.hid (X1.out.step h2 k2)
  have a3 := h2.c3
  clear h2 k2
  rw [HQE.out] at a3
  go_wp2_with fail
  refine (rfloat_any (B : Int) w2).mono ?_
  rintro e w3 ⟨rfl, rfl⟩
  rw [hfl]
  go_wp2_with fail
  refine (rof_any (B : Int) w2 nm ps rs 2 true HI.out HS.out).mono ?_
  rintro e w5 ⟨rfl, c5⟩
  have X5 := Lib.hid (X2.out.later c5)
  clear c5 a3
  go_upto_region 9 with fail
  obtain ⟨W6, hW6⟩ : ∃ W6, w5.alloc (.cells #[.string nm, .int .i64 2, .string ps, .string rs] 121) = W6 := ⟨_, rfl⟩
  have B6 : Below w5.heap.size w5 W6 := by rw [← hW6]; exact (Below.refl _ _).alloc (Nat.le_refl _) _
  have i1 := cell_of_row W6 _ 1 _ _ _ (show W6.heap[w5.heap.size]? = some (.cells #[.string nm, .int .i64 2, .string ps, .string rs] 121 (0, 0)) by rw [← hW6]; exact heap_alloc_new _ _)
  have X6 := Lib.hid (X5.out.later B6)
  have z6 : w5.heap.size < W6.heap.size := by rw [← hW6]; simp
  have n6 : w.heap.size < w5.heap.size := X5.out.size
  rw [hW6]
  clear hW6 B6
  go_upto_region 13 with fail
  obtain ⟨W8, hW8⟩ : ∃ W8, W6.alloc (.cells #[.int .i64 (B : Int), .int .i64 0, .int .i64 0, .slice none 0 0] 33) = W8 := ⟨_, rfl⟩
  have B8 : Below W6.heap.size W6 W8 := by rw [← hW8]; exact (Below.refl _ _).alloc (Nat.le_refl _) _
  have X8 := Lib.hid (show XF w rb en W6.heap.size S #[.int .i64 (B : Int), .int .i64 0, .int .i64 0, .slice none 0 0] q W8 from ⟨X6.out.later B8, by rw [← hW8]; exact heap_alloc_new _ _, by omega⟩)
  replace i1 := cell_later B8 i1
  rw [hW8]
  clear hW8 B8 n6
  generalize W6.heap.size = xb at *
  go_wp2_with fail
  refine (rf_number _ X8.out.base.rd HN.out).mono ?_
  rintro e w9 ⟨rfl, h9, k9⟩
  have X9 := Lib.hid (X8.out.step h9 k9)
  clear h9 k9
  have f1 := X9.out.fz 1
  have t1 := X9.out.cell 1 (.int .i64 0) rfl
  have X10 := Lib.hid (X9.out.set 1 (.int .i64 n))
  obtain ⟨W10, hW10⟩ : ∃ W10, w9.setCell ⟨xb, 1, none⟩ (.int .i64 n) = W10 := ⟨_, rfl⟩
  rw [hW10] at X10
  have HW10 := Lib.hid hW10
  clear hW10
  go_upto_region 39 with fail
  rw [HW10.out]
  clear f1 t1
  have b0 := X10.out.cell 0 (.int .i64 (B : Int)) rfl
  have b1 := X10.out.cell 1 (.int .i64 n) rfl
  have b2 := X10.out.cell 2 (.int .i64 0) rfl
  have b3 := X10.out.cell 3 (.slice none 0 0) rfl
  have f0 := X10.out.base.fz 0
  have f1 := X10.out.base.fz 1
  have f2 := X10.out.base.fz 2
  have f3 := X10.out.base.fz 3
  have t0 := X10.out.base.cell 0 (.int .i64 0) rfl
  have t1 := X10.out.base.cell 1 (.int .i64 0) rfl
  have t2 := X10.out.base.cell 2 (.int .i64 0) rfl
  have t3 := X10.out.base.cell 3 (.slice none 0 0) rfl
  obtain ⟨W20, hW20⟩ : ∃ W20, (((W10.setCell ⟨w.heap.size, 0, none⟩ (.int .i64 (B : Int))).setCell ⟨w.heap.size, 1, none⟩ (.int .i64 n)).setCell ⟨w.heap.size, 2, none⟩ (.int .i64 0)).setCell ⟨w.heap.size, 3, none⟩ (.slice none 0 0) = W20 := ⟨_, rfl⟩
  have hput := xe_put X10.out.base _ _ _ _ hW20
  have HP := Lib.hid hput
  have HW20 := Lib.hid hW20
  have r0 : W20.cell? ⟨w.heap.size, 0, none⟩ = some (.int .i64 (B : Int)) := cell_of_row W20 _ 0 _ _ _ hput.1
  have r1 : W20.cell? ⟨w.heap.size, 1, none⟩ = some (.int .i64 n) := cell_of_row W20 _ 1 _ _ _ hput.1
  have r2 : W20.cell? ⟨w.heap.size, 2, none⟩ = some (.int .i64 0) := cell_of_row W20 _ 2 _ _ _ hput.1
  have r3 : W20.cell? ⟨w.heap.size, 3, none⟩ = some (.slice none 0 0) := cell_of_row W20 _ 3 _ _ _ hput.1
  clear hW20 hput
  go_wp2_with fail
  rw [HW20.out]
  (try simp only [Exit.inBlock, Exit.then])
  refine bodyPost_ret (v := .agg #[.int .i64 (B : Int), .int .i64 n, .int .i64 0, .slice none 0 0]) (by simp [results, Tryz.results90, go_sem, r0, r1, r2, r3]) rfl ?_
  exact ⟨⟨(B : Int), n, 0, []⟩, _, rfl, own_nil _ _ _ _, Nat.zero_le _, fun _ => rfl, HP.out.2.1, HP.out.2.2.1⟩
set_option maxRecDepth 100000 in
set_option maxHeartbeats 4000000 in
theorem rfi_s4 (h : RfAt w rb S en r) {B : Nat} {q : RS} (hb : oneP (cutS S en) r = (B, q)) (hfl : floatB (B : Int) = false) (h17 : B ≠ 17) (nm ps rs : ByteArray) (hi : (opInfo (B : Int)).getD zeroI = ⟨nm, 4, ps, rs⟩) (hsm : (opInfo (B : Int)).isSome = true) (hq : q.e = 0) {n : Int} {Q : RS} (hn : numberP (cutS S en) q = (n, Q)) :
    Calls Tryz.prog 90 #[.pointer (some ⟨rb, 0, none⟩)] w (GotF w rb en S ⟨(B : Int), n, 0, []⟩ Q) := by
  have HN := Lib.hid hn
  clear hn
  have hq17 : ((B : Int) == 17) = false := beq_eq_false_iff_ne.2 (by omega)
  have HQE := Lib.hid hq
  have HI := Lib.hid hi
  have HS := Lib.hid hsm
  clear h17 hq hi hsm
  have X1 := Lib.hid (XE.new h)
  have HONE := Lib.hid (rf_one _ X1.out.rd hb)
  clear h hb
  go_enter Tryz.func90, Tryz.ntmps90
  go_upto_region 1 with fail
  obtain ⟨W1, hW1⟩ : ∃ W1, w.alloc (.cells #[.int .i64 0, .int .i64 0, .int .i64 0, .slice none 0 0] 33) = W1 := ⟨_, rfl⟩
  rw [hW1] at HONE X1 ⊢
  clear hW1
  go_wp2_with fail
  refine HONE.out.mono ?_
  rintro e w2 ⟨rfl, h2, k2⟩
  have X2 := Lib.hid (X1.out.step h2 k2)
  have a3 := h2.c3
  clear h2 k2
  rw [HQE.out] at a3
  go_wp2_with fail
  refine (rfloat_any (B : Int) w2).mono ?_
  rintro e w3 ⟨rfl, rfl⟩
  rw [hfl]
  go_wp2_with fail
  refine (rof_any (B : Int) w2 nm ps rs 4 true HI.out HS.out).mono ?_
  rintro e w5 ⟨rfl, c5⟩
  have X5 := Lib.hid (X2.out.later c5)
  clear c5 a3
  go_upto_region 9 with fail
  obtain ⟨W6, hW6⟩ : ∃ W6, w5.alloc (.cells #[.string nm, .int .i64 4, .string ps, .string rs] 121) = W6 := ⟨_, rfl⟩
  have B6 : Below w5.heap.size w5 W6 := by rw [← hW6]; exact (Below.refl _ _).alloc (Nat.le_refl _) _
  have i1 := cell_of_row W6 _ 1 _ _ _ (show W6.heap[w5.heap.size]? = some (.cells #[.string nm, .int .i64 4, .string ps, .string rs] 121 (0, 0)) by rw [← hW6]; exact heap_alloc_new _ _)
  have X6 := Lib.hid (X5.out.later B6)
  have z6 : w5.heap.size < W6.heap.size := by rw [← hW6]; simp
  have n6 : w.heap.size < w5.heap.size := X5.out.size
  rw [hW6]
  clear hW6 B6
  go_upto_region 13 with fail
  obtain ⟨W8, hW8⟩ : ∃ W8, W6.alloc (.cells #[.int .i64 (B : Int), .int .i64 0, .int .i64 0, .slice none 0 0] 33) = W8 := ⟨_, rfl⟩
  have B8 : Below W6.heap.size W6 W8 := by rw [← hW8]; exact (Below.refl _ _).alloc (Nat.le_refl _) _
  have X8 := Lib.hid (show XF w rb en W6.heap.size S #[.int .i64 (B : Int), .int .i64 0, .int .i64 0, .slice none 0 0] q W8 from ⟨X6.out.later B8, by rw [← hW8]; exact heap_alloc_new _ _, by omega⟩)
  replace i1 := cell_later B8 i1
  rw [hW8]
  clear hW8 B8 n6
  generalize W6.heap.size = xb at *
  go_wp2_with fail
  refine (rf_number _ X8.out.base.rd HN.out).mono ?_
  rintro e w9 ⟨rfl, h9, k9⟩
  have X9 := Lib.hid (X8.out.step h9 k9)
  clear h9 k9
  have f1 := X9.out.fz 1
  have t1 := X9.out.cell 1 (.int .i64 0) rfl
  have X10 := Lib.hid (X9.out.set 1 (.int .i64 n))
  obtain ⟨W10, hW10⟩ : ∃ W10, w9.setCell ⟨xb, 1, none⟩ (.int .i64 n) = W10 := ⟨_, rfl⟩
  rw [hW10] at X10
  have HW10 := Lib.hid hW10
  clear hW10
  go_upto_region 39 with fail
  rw [HW10.out]
  clear f1 t1
  have b0 := X10.out.cell 0 (.int .i64 (B : Int)) rfl
  have b1 := X10.out.cell 1 (.int .i64 n) rfl
  have b2 := X10.out.cell 2 (.int .i64 0) rfl
  have b3 := X10.out.cell 3 (.slice none 0 0) rfl
  have f0 := X10.out.base.fz 0
  have f1 := X10.out.base.fz 1
  have f2 := X10.out.base.fz 2
  have f3 := X10.out.base.fz 3
  have t0 := X10.out.base.cell 0 (.int .i64 0) rfl
  have t1 := X10.out.base.cell 1 (.int .i64 0) rfl
  have t2 := X10.out.base.cell 2 (.int .i64 0) rfl
  have t3 := X10.out.base.cell 3 (.slice none 0 0) rfl
  obtain ⟨W20, hW20⟩ : ∃ W20, (((W10.setCell ⟨w.heap.size, 0, none⟩ (.int .i64 (B : Int))).setCell ⟨w.heap.size, 1, none⟩ (.int .i64 n)).setCell ⟨w.heap.size, 2, none⟩ (.int .i64 0)).setCell ⟨w.heap.size, 3, none⟩ (.slice none 0 0) = W20 := ⟨_, rfl⟩
  have hput := xe_put X10.out.base _ _ _ _ hW20
  have HP := Lib.hid hput
  have HW20 := Lib.hid hW20
  have r0 : W20.cell? ⟨w.heap.size, 0, none⟩ = some (.int .i64 (B : Int)) := cell_of_row W20 _ 0 _ _ _ hput.1
  have r1 : W20.cell? ⟨w.heap.size, 1, none⟩ = some (.int .i64 n) := cell_of_row W20 _ 1 _ _ _ hput.1
  have r2 : W20.cell? ⟨w.heap.size, 2, none⟩ = some (.int .i64 0) := cell_of_row W20 _ 2 _ _ _ hput.1
  have r3 : W20.cell? ⟨w.heap.size, 3, none⟩ = some (.slice none 0 0) := cell_of_row W20 _ 3 _ _ _ hput.1
  clear hW20 hput
  go_wp2_with fail
  rw [HW20.out]
  (try simp only [Exit.inBlock, Exit.then])
  refine bodyPost_ret (v := .agg #[.int .i64 (B : Int), .int .i64 n, .int .i64 0, .slice none 0 0]) (by simp [results, Tryz.results90, go_sem, r0, r1, r2, r3]) rfl ?_
  exact ⟨⟨(B : Int), n, 0, []⟩, _, rfl, own_nil _ _ _ _, Nat.zero_le _, fun _ => rfl, HP.out.2.1, HP.out.2.2.1⟩
set_option maxRecDepth 100000 in
set_option maxHeartbeats 4000000 in
theorem rfi_s5 (h : RfAt w rb S en r) {B : Nat} {q : RS} (hb : oneP (cutS S en) r = (B, q)) (hfl : floatB (B : Int) = false) (h17 : B ≠ 17) (nm ps rs : ByteArray) (hi : (opInfo (B : Int)).getD zeroI = ⟨nm, 5, ps, rs⟩) (hsm : (opInfo (B : Int)).isSome = true) (hq : q.e = 0) {n k : Int} {q1 Q : RS} (hn : numberP (cutS S en) q = (n, q1)) (hk : numberP (cutS S en) q1 = (k, Q)) :
    Calls Tryz.prog 90 #[.pointer (some ⟨rb, 0, none⟩)] w (GotF w rb en S ⟨(B : Int), n, k, []⟩ Q) := by
  have HN := Lib.hid hn
  have HK := Lib.hid hk
  clear hn hk
  have hq17 : ((B : Int) == 17) = false := beq_eq_false_iff_ne.2 (by omega)
  have HQE := Lib.hid hq
  have HI := Lib.hid hi
  have HS := Lib.hid hsm
  clear h17 hq hi hsm
  have X1 := Lib.hid (XE.new h)
  have HONE := Lib.hid (rf_one _ X1.out.rd hb)
  clear h hb
  go_enter Tryz.func90, Tryz.ntmps90
  go_upto_region 1 with fail
  obtain ⟨W1, hW1⟩ : ∃ W1, w.alloc (.cells #[.int .i64 0, .int .i64 0, .int .i64 0, .slice none 0 0] 33) = W1 := ⟨_, rfl⟩
  rw [hW1] at HONE X1 ⊢
  clear hW1
  go_wp2_with fail
  refine HONE.out.mono ?_
  rintro e w2 ⟨rfl, h2, k2⟩
  have X2 := Lib.hid (X1.out.step h2 k2)
  have a3 := h2.c3
  clear h2 k2
  rw [HQE.out] at a3
  go_wp2_with fail
  refine (rfloat_any (B : Int) w2).mono ?_
  rintro e w3 ⟨rfl, rfl⟩
  rw [hfl]
  go_wp2_with fail
  refine (rof_any (B : Int) w2 nm ps rs 5 true HI.out HS.out).mono ?_
  rintro e w5 ⟨rfl, c5⟩
  have X5 := Lib.hid (X2.out.later c5)
  clear c5 a3
  go_upto_region 9 with fail
  obtain ⟨W6, hW6⟩ : ∃ W6, w5.alloc (.cells #[.string nm, .int .i64 5, .string ps, .string rs] 121) = W6 := ⟨_, rfl⟩
  have B6 : Below w5.heap.size w5 W6 := by rw [← hW6]; exact (Below.refl _ _).alloc (Nat.le_refl _) _
  have i1 := cell_of_row W6 _ 1 _ _ _ (show W6.heap[w5.heap.size]? = some (.cells #[.string nm, .int .i64 5, .string ps, .string rs] 121 (0, 0)) by rw [← hW6]; exact heap_alloc_new _ _)
  have X6 := Lib.hid (X5.out.later B6)
  have z6 : w5.heap.size < W6.heap.size := by rw [← hW6]; simp
  have n6 : w.heap.size < w5.heap.size := X5.out.size
  rw [hW6]
  clear hW6 B6
  go_upto_region 13 with fail
  obtain ⟨W8, hW8⟩ : ∃ W8, W6.alloc (.cells #[.int .i64 (B : Int), .int .i64 0, .int .i64 0, .slice none 0 0] 33) = W8 := ⟨_, rfl⟩
  have B8 : Below W6.heap.size W6 W8 := by rw [← hW8]; exact (Below.refl _ _).alloc (Nat.le_refl _) _
  have X8 := Lib.hid (show XF w rb en W6.heap.size S #[.int .i64 (B : Int), .int .i64 0, .int .i64 0, .slice none 0 0] q W8 from ⟨X6.out.later B8, by rw [← hW8]; exact heap_alloc_new _ _, by omega⟩)
  replace i1 := cell_later B8 i1
  rw [hW8]
  clear hW8 B8 n6
  generalize W6.heap.size = xb at *
  go_wp2_with fail
  refine (rf_number _ X8.out.base.rd HN.out).mono ?_
  rintro e w9 ⟨rfl, h9, k9⟩
  have X9 := Lib.hid (X8.out.step h9 k9)
  clear h9 k9
  have f1 := X9.out.fz 1
  have t1 := X9.out.cell 1 (.int .i64 0) rfl
  have X10 := Lib.hid (X9.out.set 1 (.int .i64 n))
  obtain ⟨W10, hW10⟩ : ∃ W10, w9.setCell ⟨xb, 1, none⟩ (.int .i64 n) = W10 := ⟨_, rfl⟩
  rw [hW10] at X10
  have HW10 := Lib.hid hW10
  clear hW10
  go_upto_region 33 with fail
  rw [HW10.out]
  clear f1 t1
  go_wp2_with fail
  refine (rf_number _ X10.out.base.rd HK.out).mono ?_
  rintro e w11 ⟨rfl, h11, k11⟩
  have X11 := Lib.hid (X10.out.step h11 k11)
  clear h11 k11
  have f2 := X11.out.fz 2
  have t2 := X11.out.cell 2 (.int .i64 0) rfl
  have X12 := Lib.hid (X11.out.set 2 (.int .i64 k))
  obtain ⟨W12, hW12⟩ : ∃ W12, w11.setCell ⟨xb, 2, none⟩ (.int .i64 k) = W12 := ⟨_, rfl⟩
  rw [hW12] at X12
  have HW12 := Lib.hid hW12
  clear hW12
  go_upto_region 39 with fail
  rw [HW12.out]
  clear f2 t2
  have b0 := X12.out.cell 0 (.int .i64 (B : Int)) rfl
  have b1 := X12.out.cell 1 (.int .i64 n) rfl
  have b2 := X12.out.cell 2 (.int .i64 k) rfl
  have b3 := X12.out.cell 3 (.slice none 0 0) rfl
  have f0 := X12.out.base.fz 0
  have f1 := X12.out.base.fz 1
  have f2 := X12.out.base.fz 2
  have f3 := X12.out.base.fz 3
  have t0 := X12.out.base.cell 0 (.int .i64 0) rfl
  have t1 := X12.out.base.cell 1 (.int .i64 0) rfl
  have t2 := X12.out.base.cell 2 (.int .i64 0) rfl
  have t3 := X12.out.base.cell 3 (.slice none 0 0) rfl
  obtain ⟨W20, hW20⟩ : ∃ W20, (((W12.setCell ⟨w.heap.size, 0, none⟩ (.int .i64 (B : Int))).setCell ⟨w.heap.size, 1, none⟩ (.int .i64 n)).setCell ⟨w.heap.size, 2, none⟩ (.int .i64 k)).setCell ⟨w.heap.size, 3, none⟩ (.slice none 0 0) = W20 := ⟨_, rfl⟩
  have hput := xe_put X12.out.base _ _ _ _ hW20
  have HP := Lib.hid hput
  have HW20 := Lib.hid hW20
  have r0 : W20.cell? ⟨w.heap.size, 0, none⟩ = some (.int .i64 (B : Int)) := cell_of_row W20 _ 0 _ _ _ hput.1
  have r1 : W20.cell? ⟨w.heap.size, 1, none⟩ = some (.int .i64 n) := cell_of_row W20 _ 1 _ _ _ hput.1
  have r2 : W20.cell? ⟨w.heap.size, 2, none⟩ = some (.int .i64 k) := cell_of_row W20 _ 2 _ _ _ hput.1
  have r3 : W20.cell? ⟨w.heap.size, 3, none⟩ = some (.slice none 0 0) := cell_of_row W20 _ 3 _ _ _ hput.1
  clear hW20 hput
  go_wp2_with fail
  rw [HW20.out]
  (try simp only [Exit.inBlock, Exit.then])
  refine bodyPost_ret (v := .agg #[.int .i64 (B : Int), .int .i64 n, .int .i64 k, .slice none 0 0]) (by simp [results, Tryz.results90, go_sem, r0, r1, r2, r3]) rfl ?_
  exact ⟨⟨(B : Int), n, k, []⟩, _, rfl, own_nil _ _ _ _, Nat.zero_le _, fun _ => rfl, HP.out.2.1, HP.out.2.2.1⟩
end Go.Proofs.YteidhccnbfikcaaGreatDoor.Dec

/- DecRfC: What the document's own instr of chapter 6 reads. No condition beyond what each theorem names. -/
namespace Go.Proofs.YteidhccnbfikcaaGreatDoor.Dec
open Go.RowKit Go.Maps Go.Proofs.YteidhccnbfikcaaGreatDoor.Op Go.Proofs.YteidhccnbfikcaaGreatDoor.Mod Go.Proofs.YteidhccnbfikcaaGreatDoor.Leb Go.Proofs.YteidhccnbfikcaaGreatDoor.Enc
set_option linter.unusedVariables false
set_option linter.unusedSimpArgs false
variable {w w' W W' : World} {rb en xb : Nat} {S : ByteArray} {r r' : RS} {box : Array Value}
set_option maxRecDepth 100000 in
set_option maxHeartbeats 4000000 in
theorem rfi_s6z (h : RfAt w rb S en r) {B : Nat} {q : RS} (hb : oneP (cutS S en) r = (B, q)) (hfl : floatB (B : Int) = false) (h17 : B ≠ 17) (nm ps rs : ByteArray) (hi : (opInfo (B : Int)).getD zeroI = ⟨nm, 6, ps, rs⟩) (hsm : (opInfo (B : Int)).isSome = true) (hq : q.e = 0) {T : Nat} {q1 Q : RS} (hT : oneP (cutS S en) q = (T, q1)) (hT0 : T = 0) (hQ : failP (T != 0) 2 q1 = Q) :
    Calls Tryz.prog 90 #[.pointer (some ⟨rb, 0, none⟩)] w (GotF w rb en S ⟨(B : Int), 0, 0, []⟩ Q) := by
  have hz : ((T : Int) != 0) = false := by rw [hT0]; rfl
  have hz2 : ((T : Int) == 0) = true := by rw [hT0]; rfl
  have HQ := Lib.hid (show q1 = Q by rw [← hQ, show (T != 0) = false by rw [hT0]; rfl]; exact (fail_ok _ _).symm)
  have HT := Lib.hid hT
  clear hT hQ hT0
  have hq17 : ((B : Int) == 17) = false := beq_eq_false_iff_ne.2 (by omega)
  have HQE := Lib.hid hq
  have HI := Lib.hid hi
  have HS := Lib.hid hsm
  clear h17 hq hi hsm
  have X1 := Lib.hid (XE.new h)
  have HONE := Lib.hid (rf_one _ X1.out.rd hb)
  clear h hb
  go_enter Tryz.func90, Tryz.ntmps90
  go_upto_region 1 with fail
  obtain ⟨W1, hW1⟩ : ∃ W1, w.alloc (.cells #[.int .i64 0, .int .i64 0, .int .i64 0, .slice none 0 0] 33) = W1 := ⟨_, rfl⟩
  rw [hW1] at HONE X1 ⊢
  clear hW1
  go_wp2_with fail
  refine HONE.out.mono ?_
  rintro e w2 ⟨rfl, h2, k2⟩
  have X2 := Lib.hid (X1.out.step h2 k2)
  have a3 := h2.c3
  clear h2 k2
  rw [HQE.out] at a3
  go_wp2_with fail
  refine (rfloat_any (B : Int) w2).mono ?_
  rintro e w3 ⟨rfl, rfl⟩
  rw [hfl]
  go_wp2_with fail
  refine (rof_any (B : Int) w2 nm ps rs 6 true HI.out HS.out).mono ?_
  rintro e w5 ⟨rfl, c5⟩
  have X5 := Lib.hid (X2.out.later c5)
  clear c5 a3
  go_upto_region 9 with fail
  obtain ⟨W6, hW6⟩ : ∃ W6, w5.alloc (.cells #[.string nm, .int .i64 6, .string ps, .string rs] 121) = W6 := ⟨_, rfl⟩
  have B6 : Below w5.heap.size w5 W6 := by rw [← hW6]; exact (Below.refl _ _).alloc (Nat.le_refl _) _
  have i1 := cell_of_row W6 _ 1 _ _ _ (show W6.heap[w5.heap.size]? = some (.cells #[.string nm, .int .i64 6, .string ps, .string rs] 121 (0, 0)) by rw [← hW6]; exact heap_alloc_new _ _)
  have X6 := Lib.hid (X5.out.later B6)
  have z6 : w5.heap.size < W6.heap.size := by rw [← hW6]; simp
  have n6 : w.heap.size < w5.heap.size := X5.out.size
  rw [hW6]
  clear hW6 B6
  go_upto_region 13 with fail
  obtain ⟨W8, hW8⟩ : ∃ W8, W6.alloc (.cells #[.int .i64 (B : Int), .int .i64 0, .int .i64 0, .slice none 0 0] 33) = W8 := ⟨_, rfl⟩
  have B8 : Below W6.heap.size W6 W8 := by rw [← hW8]; exact (Below.refl _ _).alloc (Nat.le_refl _) _
  have X8 := Lib.hid (show XF w rb en W6.heap.size S #[.int .i64 (B : Int), .int .i64 0, .int .i64 0, .slice none 0 0] q W8 from ⟨X6.out.later B8, by rw [← hW8]; exact heap_alloc_new _ _, by omega⟩)
  replace i1 := cell_later B8 i1
  rw [hW8]
  clear hW8 B8 n6
  generalize W6.heap.size = xb at *
  go_wp2_with fail
  refine (rf_one _ X8.out.base.rd HT.out).mono ?_
  rintro e w9 ⟨rfl, h9, k9⟩
  have X9 := Lib.hid (X8.out.step h9 k9)
  clear h9 k9
  rw [HQ.out] at X9
  have b0 := X9.out.cell 0 (.int .i64 (B : Int)) rfl
  have b1 := X9.out.cell 1 (.int .i64 0) rfl
  have b2 := X9.out.cell 2 (.int .i64 0) rfl
  have b3 := X9.out.cell 3 (.slice none 0 0) rfl
  have f0 := X9.out.base.fz 0
  have f1 := X9.out.base.fz 1
  have f2 := X9.out.base.fz 2
  have f3 := X9.out.base.fz 3
  have t0 := X9.out.base.cell 0 (.int .i64 0) rfl
  have t1 := X9.out.base.cell 1 (.int .i64 0) rfl
  have t2 := X9.out.base.cell 2 (.int .i64 0) rfl
  have t3 := X9.out.base.cell 3 (.slice none 0 0) rfl
  obtain ⟨W20, hW20⟩ : ∃ W20, (((w9.setCell ⟨w.heap.size, 0, none⟩ (.int .i64 (B : Int))).setCell ⟨w.heap.size, 1, none⟩ (.int .i64 0)).setCell ⟨w.heap.size, 2, none⟩ (.int .i64 0)).setCell ⟨w.heap.size, 3, none⟩ (.slice none 0 0) = W20 := ⟨_, rfl⟩
  have hput := xe_put X9.out.base _ _ _ _ hW20
  have HP := Lib.hid hput
  have HW20 := Lib.hid hW20
  have r0 : W20.cell? ⟨w.heap.size, 0, none⟩ = some (.int .i64 (B : Int)) := cell_of_row W20 _ 0 _ _ _ hput.1
  have r1 : W20.cell? ⟨w.heap.size, 1, none⟩ = some (.int .i64 0) := cell_of_row W20 _ 1 _ _ _ hput.1
  have r2 : W20.cell? ⟨w.heap.size, 2, none⟩ = some (.int .i64 0) := cell_of_row W20 _ 2 _ _ _ hput.1
  have r3 : W20.cell? ⟨w.heap.size, 3, none⟩ = some (.slice none 0 0) := cell_of_row W20 _ 3 _ _ _ hput.1
  clear hW20 hput
  go_wp2_with fail
  rw [HW20.out]
  (try simp only [Exit.inBlock, Exit.then])
  refine bodyPost_ret (v := .agg #[.int .i64 (B : Int), .int .i64 0, .int .i64 0, .slice none 0 0]) (by simp [results, Tryz.results90, go_sem, r0, r1, r2, r3]) rfl ?_
  exact ⟨⟨(B : Int), 0, 0, []⟩, _, rfl, own_nil _ _ _ _, Nat.zero_le _, fun _ => rfl, HP.out.2.1, HP.out.2.2.1⟩
set_option maxRecDepth 100000 in
set_option maxHeartbeats 4000000 in
theorem rfi_s6n (h : RfAt w rb S en r) {B : Nat} {q : RS} (hb : oneP (cutS S en) r = (B, q)) (hfl : floatB (B : Int) = false) (h17 : B ≠ 17) (nm ps rs : ByteArray) (hi : (opInfo (B : Int)).getD zeroI = ⟨nm, 6, ps, rs⟩) (hsm : (opInfo (B : Int)).isSome = true) (hq : q.e = 0) {T : Nat} {q1 Q : RS} (hT : oneP (cutS S en) q = (T, q1)) (hT0 : T ≠ 0) (hQ : failP (T != 0) 2 q1 = Q) :
    Calls Tryz.prog 90 #[.pointer (some ⟨rb, 0, none⟩)] w (GotF w rb en S ⟨(B : Int), 0, 0, []⟩ Q) := by
  have hz : ((T : Int) != 0) = true := bne_iff_ne.2 (by omega)
  have hz2 : ((T : Int) == 0) = false := beq_eq_false_iff_ne.2 (by omega)
  have HQ := Lib.hid (show failP true 2 q1 = Q by rw [← hQ, show (T != 0) = true by exact bne_iff_ne.2 hT0])
  have HT := Lib.hid hT
  clear hT hQ hT0
  have hq17 : ((B : Int) == 17) = false := beq_eq_false_iff_ne.2 (by omega)
  have HQE := Lib.hid hq
  have HI := Lib.hid hi
  have HS := Lib.hid hsm
  clear h17 hq hi hsm
  have X1 := Lib.hid (XE.new h)
  have HONE := Lib.hid (rf_one _ X1.out.rd hb)
  clear h hb
  go_enter Tryz.func90, Tryz.ntmps90
  go_upto_region 1 with fail
  obtain ⟨W1, hW1⟩ : ∃ W1, w.alloc (.cells #[.int .i64 0, .int .i64 0, .int .i64 0, .slice none 0 0] 33) = W1 := ⟨_, rfl⟩
  rw [hW1] at HONE X1 ⊢
  clear hW1
  go_wp2_with fail
  refine HONE.out.mono ?_
  rintro e w2 ⟨rfl, h2, k2⟩
  have X2 := Lib.hid (X1.out.step h2 k2)
  have a3 := h2.c3
  clear h2 k2
  rw [HQE.out] at a3
  go_wp2_with fail
  refine (rfloat_any (B : Int) w2).mono ?_
  rintro e w3 ⟨rfl, rfl⟩
  rw [hfl]
  go_wp2_with fail
  refine (rof_any (B : Int) w2 nm ps rs 6 true HI.out HS.out).mono ?_
  rintro e w5 ⟨rfl, c5⟩
  have X5 := Lib.hid (X2.out.later c5)
  clear c5 a3
  go_upto_region 9 with fail
  obtain ⟨W6, hW6⟩ : ∃ W6, w5.alloc (.cells #[.string nm, .int .i64 6, .string ps, .string rs] 121) = W6 := ⟨_, rfl⟩
  have B6 : Below w5.heap.size w5 W6 := by rw [← hW6]; exact (Below.refl _ _).alloc (Nat.le_refl _) _
  have i1 := cell_of_row W6 _ 1 _ _ _ (show W6.heap[w5.heap.size]? = some (.cells #[.string nm, .int .i64 6, .string ps, .string rs] 121 (0, 0)) by rw [← hW6]; exact heap_alloc_new _ _)
  have X6 := Lib.hid (X5.out.later B6)
  have z6 : w5.heap.size < W6.heap.size := by rw [← hW6]; simp
  have n6 : w.heap.size < w5.heap.size := X5.out.size
  rw [hW6]
  clear hW6 B6
  go_upto_region 13 with fail
  obtain ⟨W8, hW8⟩ : ∃ W8, W6.alloc (.cells #[.int .i64 (B : Int), .int .i64 0, .int .i64 0, .slice none 0 0] 33) = W8 := ⟨_, rfl⟩
  have B8 : Below W6.heap.size W6 W8 := by rw [← hW8]; exact (Below.refl _ _).alloc (Nat.le_refl _) _
  have X8 := Lib.hid (show XF w rb en W6.heap.size S #[.int .i64 (B : Int), .int .i64 0, .int .i64 0, .slice none 0 0] q W8 from ⟨X6.out.later B8, by rw [← hW8]; exact heap_alloc_new _ _, by omega⟩)
  replace i1 := cell_later B8 i1
  rw [hW8]
  clear hW8 B8 n6
  generalize W6.heap.size = xb at *
  go_wp2_with fail
  refine (rf_one _ X8.out.base.rd HT.out).mono ?_
  rintro e w9 ⟨rfl, h9, k9⟩
  have X9 := Lib.hid (X8.out.step h9 k9)
  clear h9 k9
  go_wp2_with fail
  refine (rf_fails _ X9.out.base.rd 2).mono ?_
  rintro e w10 ⟨rfl, h10, k10⟩
  have X10 := Lib.hid (X9.out.step h10 k10)
  clear h10 k10
  rw [HQ.out] at X10
  have b0 := X10.out.cell 0 (.int .i64 (B : Int)) rfl
  have b1 := X10.out.cell 1 (.int .i64 0) rfl
  have b2 := X10.out.cell 2 (.int .i64 0) rfl
  have b3 := X10.out.cell 3 (.slice none 0 0) rfl
  have f0 := X10.out.base.fz 0
  have f1 := X10.out.base.fz 1
  have f2 := X10.out.base.fz 2
  have f3 := X10.out.base.fz 3
  have t0 := X10.out.base.cell 0 (.int .i64 0) rfl
  have t1 := X10.out.base.cell 1 (.int .i64 0) rfl
  have t2 := X10.out.base.cell 2 (.int .i64 0) rfl
  have t3 := X10.out.base.cell 3 (.slice none 0 0) rfl
  obtain ⟨W20, hW20⟩ : ∃ W20, (((w10.setCell ⟨w.heap.size, 0, none⟩ (.int .i64 (B : Int))).setCell ⟨w.heap.size, 1, none⟩ (.int .i64 0)).setCell ⟨w.heap.size, 2, none⟩ (.int .i64 0)).setCell ⟨w.heap.size, 3, none⟩ (.slice none 0 0) = W20 := ⟨_, rfl⟩
  have hput := xe_put X10.out.base _ _ _ _ hW20
  have HP := Lib.hid hput
  have HW20 := Lib.hid hW20
  have r0 : W20.cell? ⟨w.heap.size, 0, none⟩ = some (.int .i64 (B : Int)) := cell_of_row W20 _ 0 _ _ _ hput.1
  have r1 : W20.cell? ⟨w.heap.size, 1, none⟩ = some (.int .i64 0) := cell_of_row W20 _ 1 _ _ _ hput.1
  have r2 : W20.cell? ⟨w.heap.size, 2, none⟩ = some (.int .i64 0) := cell_of_row W20 _ 2 _ _ _ hput.1
  have r3 : W20.cell? ⟨w.heap.size, 3, none⟩ = some (.slice none 0 0) := cell_of_row W20 _ 3 _ _ _ hput.1
  clear hW20 hput
  go_wp2_with fail
  rw [HW20.out]
  (try simp only [Exit.inBlock, Exit.then])
  refine bodyPost_ret (v := .agg #[.int .i64 (B : Int), .int .i64 0, .int .i64 0, .slice none 0 0]) (by simp [results, Tryz.results90, go_sem, r0, r1, r2, r3]) rfl ?_
  exact ⟨⟨(B : Int), 0, 0, []⟩, _, rfl, own_nil _ _ _ _, Nat.zero_le _, fun _ => rfl, HP.out.2.1, HP.out.2.2.1⟩
set_option maxRecDepth 100000 in
set_option maxHeartbeats 4000000 in
theorem rfi_s7a (h : RfAt w rb S en r) {B : Nat} {q : RS} (hb : oneP (cutS S en) r = (B, q)) (hfl : floatB (B : Int) = false) (h17 : B ≠ 17) (nm ps rs : ByteArray) (hi : (opInfo (B : Int)).getD zeroI = ⟨nm, 7, ps, rs⟩) (hsm : (opInfo (B : Int)).isSome = true) (hq : q.e = 0) {n : Int} {Q : RS} (h66 : B = 66) (hn : s64P (cutS S en) q = (n, Q)) :
    Calls Tryz.prog 90 #[.pointer (some ⟨rb, 0, none⟩)] w (GotF w rb en S ⟨(B : Int), n, 0, []⟩ Q) := by
  have HN := Lib.hid (show (if true = true then s64P else s32P) (cutS S en) q = (n, Q) by rw [if_pos rfl]; exact hn)
  have hq66 : ((B : Int) == 66) = true := by rw [h66]; rfl
  clear hn h66
  have hq17 : ((B : Int) == 17) = false := beq_eq_false_iff_ne.2 (by omega)
  have HQE := Lib.hid hq
  have HI := Lib.hid hi
  have HS := Lib.hid hsm
  clear h17 hq hi hsm
  have X1 := Lib.hid (XE.new h)
  have HONE := Lib.hid (rf_one _ X1.out.rd hb)
  clear h hb
  go_enter Tryz.func90, Tryz.ntmps90
  go_upto_region 1 with fail
  obtain ⟨W1, hW1⟩ : ∃ W1, w.alloc (.cells #[.int .i64 0, .int .i64 0, .int .i64 0, .slice none 0 0] 33) = W1 := ⟨_, rfl⟩
  rw [hW1] at HONE X1 ⊢
  clear hW1
  go_wp2_with fail
  refine HONE.out.mono ?_
  rintro e w2 ⟨rfl, h2, k2⟩
  have X2 := Lib.hid (X1.out.step h2 k2)
  have a3 := h2.c3
  clear h2 k2
  rw [HQE.out] at a3
  go_wp2_with fail
  refine (rfloat_any (B : Int) w2).mono ?_
  rintro e w3 ⟨rfl, rfl⟩
  rw [hfl]
  go_wp2_with fail
  refine (rof_any (B : Int) w2 nm ps rs 7 true HI.out HS.out).mono ?_
  rintro e w5 ⟨rfl, c5⟩
  have X5 := Lib.hid (X2.out.later c5)
  clear c5 a3
  go_upto_region 9 with fail
  obtain ⟨W6, hW6⟩ : ∃ W6, w5.alloc (.cells #[.string nm, .int .i64 7, .string ps, .string rs] 121) = W6 := ⟨_, rfl⟩
  have B6 : Below w5.heap.size w5 W6 := by rw [← hW6]; exact (Below.refl _ _).alloc (Nat.le_refl _) _
  have i1 := cell_of_row W6 _ 1 _ _ _ (show W6.heap[w5.heap.size]? = some (.cells #[.string nm, .int .i64 7, .string ps, .string rs] 121 (0, 0)) by rw [← hW6]; exact heap_alloc_new _ _)
  have X6 := Lib.hid (X5.out.later B6)
  have z6 : w5.heap.size < W6.heap.size := by rw [← hW6]; simp
  have n6 : w.heap.size < w5.heap.size := X5.out.size
  rw [hW6]
  clear hW6 B6
  go_upto_region 13 with fail
  obtain ⟨W8, hW8⟩ : ∃ W8, W6.alloc (.cells #[.int .i64 (B : Int), .int .i64 0, .int .i64 0, .slice none 0 0] 33) = W8 := ⟨_, rfl⟩
  have B8 : Below W6.heap.size W6 W8 := by rw [← hW8]; exact (Below.refl _ _).alloc (Nat.le_refl _) _
  have X8 := Lib.hid (show XF w rb en W6.heap.size S #[.int .i64 (B : Int), .int .i64 0, .int .i64 0, .slice none 0 0] q W8 from ⟨X6.out.later B8, by rw [← hW8]; exact heap_alloc_new _ _, by omega⟩)
  replace i1 := cell_later B8 i1
  rw [hW8]
  clear hW8 B8 n6
  generalize W6.heap.size = xb at *
  go_wp2_with fail
  refine (rf_signed true _ X8.out.base.rd HN.out).mono ?_
  rintro e w9 ⟨rfl, h9, k9⟩
  have X9 := Lib.hid (X8.out.step h9 k9)
  clear h9 k9
  have f1 := X9.out.fz 1
  have t1 := X9.out.cell 1 (.int .i64 0) rfl
  have X10 := Lib.hid (X9.out.set 1 (.int .i64 n))
  obtain ⟨W10, hW10⟩ : ∃ W10, w9.setCell ⟨xb, 1, none⟩ (.int .i64 n) = W10 := ⟨_, rfl⟩
  rw [hW10] at X10
  have HW10 := Lib.hid hW10
  clear hW10
  go_upto_region 39 with fail
  rw [HW10.out]
  clear f1 t1
  have b0 := X10.out.cell 0 (.int .i64 (B : Int)) rfl
  have b1 := X10.out.cell 1 (.int .i64 n) rfl
  have b2 := X10.out.cell 2 (.int .i64 0) rfl
  have b3 := X10.out.cell 3 (.slice none 0 0) rfl
  have f0 := X10.out.base.fz 0
  have f1 := X10.out.base.fz 1
  have f2 := X10.out.base.fz 2
  have f3 := X10.out.base.fz 3
  have t0 := X10.out.base.cell 0 (.int .i64 0) rfl
  have t1 := X10.out.base.cell 1 (.int .i64 0) rfl
  have t2 := X10.out.base.cell 2 (.int .i64 0) rfl
  have t3 := X10.out.base.cell 3 (.slice none 0 0) rfl
  obtain ⟨W20, hW20⟩ : ∃ W20, (((W10.setCell ⟨w.heap.size, 0, none⟩ (.int .i64 (B : Int))).setCell ⟨w.heap.size, 1, none⟩ (.int .i64 n)).setCell ⟨w.heap.size, 2, none⟩ (.int .i64 0)).setCell ⟨w.heap.size, 3, none⟩ (.slice none 0 0) = W20 := ⟨_, rfl⟩
  have hput := xe_put X10.out.base _ _ _ _ hW20
  have HP := Lib.hid hput
  have HW20 := Lib.hid hW20
  have r0 : W20.cell? ⟨w.heap.size, 0, none⟩ = some (.int .i64 (B : Int)) := cell_of_row W20 _ 0 _ _ _ hput.1
  have r1 : W20.cell? ⟨w.heap.size, 1, none⟩ = some (.int .i64 n) := cell_of_row W20 _ 1 _ _ _ hput.1
  have r2 : W20.cell? ⟨w.heap.size, 2, none⟩ = some (.int .i64 0) := cell_of_row W20 _ 2 _ _ _ hput.1
  have r3 : W20.cell? ⟨w.heap.size, 3, none⟩ = some (.slice none 0 0) := cell_of_row W20 _ 3 _ _ _ hput.1
  clear hW20 hput
  go_wp2_with fail
  rw [HW20.out]
  (try simp only [Exit.inBlock, Exit.then])
  refine bodyPost_ret (v := .agg #[.int .i64 (B : Int), .int .i64 n, .int .i64 0, .slice none 0 0]) (by simp [results, Tryz.results90, go_sem, r0, r1, r2, r3]) rfl ?_
  exact ⟨⟨(B : Int), n, 0, []⟩, _, rfl, own_nil _ _ _ _, Nat.zero_le _, fun _ => rfl, HP.out.2.1, HP.out.2.2.1⟩
set_option maxRecDepth 100000 in
set_option maxHeartbeats 4000000 in
theorem rfi_s7b (h : RfAt w rb S en r) {B : Nat} {q : RS} (hb : oneP (cutS S en) r = (B, q)) (hfl : floatB (B : Int) = false) (h17 : B ≠ 17) (nm ps rs : ByteArray) (hi : (opInfo (B : Int)).getD zeroI = ⟨nm, 7, ps, rs⟩) (hsm : (opInfo (B : Int)).isSome = true) (hq : q.e = 0) {n : Int} {Q : RS} (h66 : B ≠ 66) (hn : s32P (cutS S en) q = (n, Q)) :
    Calls Tryz.prog 90 #[.pointer (some ⟨rb, 0, none⟩)] w (GotF w rb en S ⟨(B : Int), n, 0, []⟩ Q) := by
  have HN := Lib.hid (show (if false = true then s64P else s32P) (cutS S en) q = (n, Q) by rw [if_neg (by decide)]; exact hn)
  have hq66 : ((B : Int) == 66) = false := beq_eq_false_iff_ne.2 (by omega)
  clear hn h66
  have hq17 : ((B : Int) == 17) = false := beq_eq_false_iff_ne.2 (by omega)
  have HQE := Lib.hid hq
  have HI := Lib.hid hi
  have HS := Lib.hid hsm
  clear h17 hq hi hsm
  have X1 := Lib.hid (XE.new h)
  have HONE := Lib.hid (rf_one _ X1.out.rd hb)
  clear h hb
  go_enter Tryz.func90, Tryz.ntmps90
  go_upto_region 1 with fail
  obtain ⟨W1, hW1⟩ : ∃ W1, w.alloc (.cells #[.int .i64 0, .int .i64 0, .int .i64 0, .slice none 0 0] 33) = W1 := ⟨_, rfl⟩
  rw [hW1] at HONE X1 ⊢
  clear hW1
  go_wp2_with fail
  refine HONE.out.mono ?_
  rintro e w2 ⟨rfl, h2, k2⟩
  have X2 := Lib.hid (X1.out.step h2 k2)
  have a3 := h2.c3
  clear h2 k2
  rw [HQE.out] at a3
  go_wp2_with fail
  refine (rfloat_any (B : Int) w2).mono ?_
  rintro e w3 ⟨rfl, rfl⟩
  rw [hfl]
  go_wp2_with fail
  refine (rof_any (B : Int) w2 nm ps rs 7 true HI.out HS.out).mono ?_
  rintro e w5 ⟨rfl, c5⟩
  have X5 := Lib.hid (X2.out.later c5)
  clear c5 a3
  go_upto_region 9 with fail
  obtain ⟨W6, hW6⟩ : ∃ W6, w5.alloc (.cells #[.string nm, .int .i64 7, .string ps, .string rs] 121) = W6 := ⟨_, rfl⟩
  have B6 : Below w5.heap.size w5 W6 := by rw [← hW6]; exact (Below.refl _ _).alloc (Nat.le_refl _) _
  have i1 := cell_of_row W6 _ 1 _ _ _ (show W6.heap[w5.heap.size]? = some (.cells #[.string nm, .int .i64 7, .string ps, .string rs] 121 (0, 0)) by rw [← hW6]; exact heap_alloc_new _ _)
  have X6 := Lib.hid (X5.out.later B6)
  have z6 : w5.heap.size < W6.heap.size := by rw [← hW6]; simp
  have n6 : w.heap.size < w5.heap.size := X5.out.size
  rw [hW6]
  clear hW6 B6
  go_upto_region 13 with fail
  obtain ⟨W8, hW8⟩ : ∃ W8, W6.alloc (.cells #[.int .i64 (B : Int), .int .i64 0, .int .i64 0, .slice none 0 0] 33) = W8 := ⟨_, rfl⟩
  have B8 : Below W6.heap.size W6 W8 := by rw [← hW8]; exact (Below.refl _ _).alloc (Nat.le_refl _) _
  have X8 := Lib.hid (show XF w rb en W6.heap.size S #[.int .i64 (B : Int), .int .i64 0, .int .i64 0, .slice none 0 0] q W8 from ⟨X6.out.later B8, by rw [← hW8]; exact heap_alloc_new _ _, by omega⟩)
  replace i1 := cell_later B8 i1
  rw [hW8]
  clear hW8 B8 n6
  generalize W6.heap.size = xb at *
  go_wp2_with fail
  refine (rf_signed false _ X8.out.base.rd HN.out).mono ?_
  rintro e w9 ⟨rfl, h9, k9⟩
  have X9 := Lib.hid (X8.out.step h9 k9)
  clear h9 k9
  have f1 := X9.out.fz 1
  have t1 := X9.out.cell 1 (.int .i64 0) rfl
  have X10 := Lib.hid (X9.out.set 1 (.int .i64 n))
  obtain ⟨W10, hW10⟩ : ∃ W10, w9.setCell ⟨xb, 1, none⟩ (.int .i64 n) = W10 := ⟨_, rfl⟩
  rw [hW10] at X10
  have HW10 := Lib.hid hW10
  clear hW10
  go_upto_region 39 with fail
  rw [HW10.out]
  clear f1 t1
  have b0 := X10.out.cell 0 (.int .i64 (B : Int)) rfl
  have b1 := X10.out.cell 1 (.int .i64 n) rfl
  have b2 := X10.out.cell 2 (.int .i64 0) rfl
  have b3 := X10.out.cell 3 (.slice none 0 0) rfl
  have f0 := X10.out.base.fz 0
  have f1 := X10.out.base.fz 1
  have f2 := X10.out.base.fz 2
  have f3 := X10.out.base.fz 3
  have t0 := X10.out.base.cell 0 (.int .i64 0) rfl
  have t1 := X10.out.base.cell 1 (.int .i64 0) rfl
  have t2 := X10.out.base.cell 2 (.int .i64 0) rfl
  have t3 := X10.out.base.cell 3 (.slice none 0 0) rfl
  obtain ⟨W20, hW20⟩ : ∃ W20, (((W10.setCell ⟨w.heap.size, 0, none⟩ (.int .i64 (B : Int))).setCell ⟨w.heap.size, 1, none⟩ (.int .i64 n)).setCell ⟨w.heap.size, 2, none⟩ (.int .i64 0)).setCell ⟨w.heap.size, 3, none⟩ (.slice none 0 0) = W20 := ⟨_, rfl⟩
  have hput := xe_put X10.out.base _ _ _ _ hW20
  have HP := Lib.hid hput
  have HW20 := Lib.hid hW20
  have r0 : W20.cell? ⟨w.heap.size, 0, none⟩ = some (.int .i64 (B : Int)) := cell_of_row W20 _ 0 _ _ _ hput.1
  have r1 : W20.cell? ⟨w.heap.size, 1, none⟩ = some (.int .i64 n) := cell_of_row W20 _ 1 _ _ _ hput.1
  have r2 : W20.cell? ⟨w.heap.size, 2, none⟩ = some (.int .i64 0) := cell_of_row W20 _ 2 _ _ _ hput.1
  have r3 : W20.cell? ⟨w.heap.size, 3, none⟩ = some (.slice none 0 0) := cell_of_row W20 _ 3 _ _ _ hput.1
  clear hW20 hput
  go_wp2_with fail
  rw [HW20.out]
  (try simp only [Exit.inBlock, Exit.then])
  refine bodyPost_ret (v := .agg #[.int .i64 (B : Int), .int .i64 n, .int .i64 0, .slice none 0 0]) (by simp [results, Tryz.results90, go_sem, r0, r1, r2, r3]) rfl ?_
  exact ⟨⟨(B : Int), n, 0, []⟩, _, rfl, own_nil _ _ _ _, Nat.zero_le _, fun _ => rfl, HP.out.2.1, HP.out.2.2.1⟩
set_option maxRecDepth 100000 in
set_option maxHeartbeats 4000000 in
theorem rfi_s1_125 (h : RfAt w rb S en r) {B : Nat} {q : RS} (hb : oneP (cutS S en) r = (B, q)) (hfl : floatB (B : Int) = false) (h17 : B ≠ 17) (nm ps rs : ByteArray) (hi : (opInfo (B : Int)).getD zeroI = ⟨nm, 1, ps, rs⟩) (hsm : (opInfo (B : Int)).isSome = true) (hq : q.e = 0) {T : Nat} {q1 Q : RS} (hT : oneP (cutS S en) q = (T, q1)) (hT0 : T = 125) (he1 : q1.e = 0) (hQ : failP (T != 64 && T != 127 && T != 126) 2 (failP (T == 125 || T == 124) 3 q1) = Q) :
    Calls Tryz.prog 90 #[.pointer (some ⟨rb, 0, none⟩)] w (GotF w rb en S ⟨(B : Int), (T : Int), 0, []⟩ Q) := by
  have hz125e : ((T : Int) == 125) = true := by rw [hT0]; rfl
  have hz125n : ((T : Int) != 125) = false := by rw [hT0]; rfl
  have hz124e : ((T : Int) == 124) = false := by rw [hT0]; rfl
  have hz124n : ((T : Int) != 124) = true := by rw [hT0]; rfl
  have hz64e : ((T : Int) == 64) = false := by rw [hT0]; rfl
  have hz64n : ((T : Int) != 64) = true := by rw [hT0]; rfl
  have hz127e : ((T : Int) == 127) = false := by rw [hT0]; rfl
  have hz127n : ((T : Int) != 127) = true := by rw [hT0]; rfl
  have hz126e : ((T : Int) == 126) = false := by rw [hT0]; rfl
  have hz126n : ((T : Int) != 126) = true := by rw [hT0]; rfl
  have e1 : (T == 125 || T == 124) = true := by rw [hT0]; rfl
  have e2 : (T != 64 && T != 127 && T != 126) = true := by rw [hT0]; rfl
  rw [e1, e2] at hQ
  have HQ := Lib.hid hQ
  have HT := Lib.hid hT
  have HE1 := Lib.hid he1
  clear hT hQ hT0 e1 e2 he1
  have hq17 : ((B : Int) == 17) = false := beq_eq_false_iff_ne.2 (by omega)
  have HQE := Lib.hid hq
  have HI := Lib.hid hi
  have HS := Lib.hid hsm
  clear h17 hq hi hsm
  have X1 := Lib.hid (XE.new h)
  have HONE := Lib.hid (rf_one _ X1.out.rd hb)
  clear h hb
  go_enter Tryz.func90, Tryz.ntmps90
  go_upto_region 1 with fail
  obtain ⟨W1, hW1⟩ : ∃ W1, w.alloc (.cells #[.int .i64 0, .int .i64 0, .int .i64 0, .slice none 0 0] 33) = W1 := ⟨_, rfl⟩
  rw [hW1] at HONE X1 ⊢
  clear hW1
  go_wp2_with fail
  refine HONE.out.mono ?_
  rintro e w2 ⟨rfl, h2, k2⟩
  have X2 := Lib.hid (X1.out.step h2 k2)
  have a3 := h2.c3
  clear h2 k2
  rw [HQE.out] at a3
  go_wp2_with fail
  refine (rfloat_any (B : Int) w2).mono ?_
  rintro e w3 ⟨rfl, rfl⟩
  rw [hfl]
  go_wp2_with fail
  refine (rof_any (B : Int) w2 nm ps rs 1 true HI.out HS.out).mono ?_
  rintro e w5 ⟨rfl, c5⟩
  have X5 := Lib.hid (X2.out.later c5)
  clear c5 a3
  go_upto_region 9 with fail
  obtain ⟨W6, hW6⟩ : ∃ W6, w5.alloc (.cells #[.string nm, .int .i64 1, .string ps, .string rs] 121) = W6 := ⟨_, rfl⟩
  have B6 : Below w5.heap.size w5 W6 := by rw [← hW6]; exact (Below.refl _ _).alloc (Nat.le_refl _) _
  have i1 := cell_of_row W6 _ 1 _ _ _ (show W6.heap[w5.heap.size]? = some (.cells #[.string nm, .int .i64 1, .string ps, .string rs] 121 (0, 0)) by rw [← hW6]; exact heap_alloc_new _ _)
  have X6 := Lib.hid (X5.out.later B6)
  have z6 : w5.heap.size < W6.heap.size := by rw [← hW6]; simp
  have n6 : w.heap.size < w5.heap.size := X5.out.size
  rw [hW6]
  clear hW6 B6
  go_upto_region 13 with fail
  obtain ⟨W8, hW8⟩ : ∃ W8, W6.alloc (.cells #[.int .i64 (B : Int), .int .i64 0, .int .i64 0, .slice none 0 0] 33) = W8 := ⟨_, rfl⟩
  have B8 : Below W6.heap.size W6 W8 := by rw [← hW8]; exact (Below.refl _ _).alloc (Nat.le_refl _) _
  have X8 := Lib.hid (show XF w rb en W6.heap.size S #[.int .i64 (B : Int), .int .i64 0, .int .i64 0, .slice none 0 0] q W8 from ⟨X6.out.later B8, by rw [← hW8]; exact heap_alloc_new _ _, by omega⟩)
  replace i1 := cell_later B8 i1
  rw [hW8]
  clear hW8 B8 n6
  generalize W6.heap.size = xb at *
  go_wp2_with fail
  refine (rf_one _ X8.out.base.rd HT.out).mono ?_
  rintro e w9 ⟨rfl, h9, k9⟩
  have X9 := Lib.hid (X8.out.step h9 k9)
  have a3 := h9.c3
  clear h9 k9
  rw [HE1.out] at a3
  have f3 := X9.out.base.rd.fz 3
  have hS := X9.out.base.rd.setE 3
  obtain ⟨W10, hW10⟩ : ∃ W10, w9.setCell ⟨rb, 3, none⟩ (.int .i64 3) = W10 := ⟨_, rfl⟩
  rw [hW10] at hS
  have X10 := Lib.hid (X9.out.step hS (by rw [← hW10]; exact kr_set _ _ _ _))
  have HW10 := Lib.hid hW10
  clear hW10 hS
  go_upto_region 18 with fail
  rw [HW10.out]
  clear a3 f3
  go_wp2_with fail
  refine (rf_fails _ X10.out.base.rd 2).mono ?_
  rintro e w11 ⟨rfl, h11, k11⟩
  have X11 := Lib.hid (X10.out.step h11 k11)
  clear h11 k11
  have HQ2 := HQ.out
  rw [fail_yes HE1.out] at HQ2
  rw [HQ2] at X11
  clear HQ2
  have f1 := X11.out.fz 1
  have t1 := X11.out.cell 1 (.int .i64 0) rfl
  have X12 := Lib.hid (X11.out.set 1 (.int .i64 (T : Int)))
  obtain ⟨W12, hW12⟩ : ∃ W12, w11.setCell ⟨xb, 1, none⟩ (.int .i64 (T : Int)) = W12 := ⟨_, rfl⟩
  rw [hW12] at X12
  have HW12 := Lib.hid hW12
  clear hW12
  go_upto_region 39 with fail
  rw [HW12.out]
  clear f1 t1
  have b0 := X12.out.cell 0 (.int .i64 (B : Int)) rfl
  have b1 := X12.out.cell 1 (.int .i64 (T : Int)) rfl
  have b2 := X12.out.cell 2 (.int .i64 0) rfl
  have b3 := X12.out.cell 3 (.slice none 0 0) rfl
  have f0 := X12.out.base.fz 0
  have f1 := X12.out.base.fz 1
  have f2 := X12.out.base.fz 2
  have f3 := X12.out.base.fz 3
  have t0 := X12.out.base.cell 0 (.int .i64 0) rfl
  have t1 := X12.out.base.cell 1 (.int .i64 0) rfl
  have t2 := X12.out.base.cell 2 (.int .i64 0) rfl
  have t3 := X12.out.base.cell 3 (.slice none 0 0) rfl
  obtain ⟨W20, hW20⟩ : ∃ W20, (((W12.setCell ⟨w.heap.size, 0, none⟩ (.int .i64 (B : Int))).setCell ⟨w.heap.size, 1, none⟩ (.int .i64 (T : Int))).setCell ⟨w.heap.size, 2, none⟩ (.int .i64 0)).setCell ⟨w.heap.size, 3, none⟩ (.slice none 0 0) = W20 := ⟨_, rfl⟩
  have hput := xe_put X12.out.base _ _ _ _ hW20
  have HP := Lib.hid hput
  have HW20 := Lib.hid hW20
  have r0 : W20.cell? ⟨w.heap.size, 0, none⟩ = some (.int .i64 (B : Int)) := cell_of_row W20 _ 0 _ _ _ hput.1
  have r1 : W20.cell? ⟨w.heap.size, 1, none⟩ = some (.int .i64 (T : Int)) := cell_of_row W20 _ 1 _ _ _ hput.1
  have r2 : W20.cell? ⟨w.heap.size, 2, none⟩ = some (.int .i64 0) := cell_of_row W20 _ 2 _ _ _ hput.1
  have r3 : W20.cell? ⟨w.heap.size, 3, none⟩ = some (.slice none 0 0) := cell_of_row W20 _ 3 _ _ _ hput.1
  clear hW20 hput
  go_wp2_with fail
  rw [HW20.out]
  (try simp only [Exit.inBlock, Exit.then])
  refine bodyPost_ret (v := .agg #[.int .i64 (B : Int), .int .i64 (T : Int), .int .i64 0, .slice none 0 0]) (by simp [results, Tryz.results90, go_sem, r0, r1, r2, r3]) rfl ?_
  exact ⟨⟨(B : Int), (T : Int), 0, []⟩, _, rfl, own_nil _ _ _ _, Nat.zero_le _, fun _ => rfl, HP.out.2.1, HP.out.2.2.1⟩
set_option maxRecDepth 100000 in
set_option maxHeartbeats 4000000 in
theorem rfi_s1_124 (h : RfAt w rb S en r) {B : Nat} {q : RS} (hb : oneP (cutS S en) r = (B, q)) (hfl : floatB (B : Int) = false) (h17 : B ≠ 17) (nm ps rs : ByteArray) (hi : (opInfo (B : Int)).getD zeroI = ⟨nm, 1, ps, rs⟩) (hsm : (opInfo (B : Int)).isSome = true) (hq : q.e = 0) {T : Nat} {q1 Q : RS} (hT : oneP (cutS S en) q = (T, q1)) (hT0 : T = 124) (he1 : q1.e = 0) (hQ : failP (T != 64 && T != 127 && T != 126) 2 (failP (T == 125 || T == 124) 3 q1) = Q) :
    Calls Tryz.prog 90 #[.pointer (some ⟨rb, 0, none⟩)] w (GotF w rb en S ⟨(B : Int), (T : Int), 0, []⟩ Q) := by
  have hz125e : ((T : Int) == 125) = false := by rw [hT0]; rfl
  have hz125n : ((T : Int) != 125) = true := by rw [hT0]; rfl
  have hz124e : ((T : Int) == 124) = true := by rw [hT0]; rfl
  have hz124n : ((T : Int) != 124) = false := by rw [hT0]; rfl
  have hz64e : ((T : Int) == 64) = false := by rw [hT0]; rfl
  have hz64n : ((T : Int) != 64) = true := by rw [hT0]; rfl
  have hz127e : ((T : Int) == 127) = false := by rw [hT0]; rfl
  have hz127n : ((T : Int) != 127) = true := by rw [hT0]; rfl
  have hz126e : ((T : Int) == 126) = false := by rw [hT0]; rfl
  have hz126n : ((T : Int) != 126) = true := by rw [hT0]; rfl
  have e1 : (T == 125 || T == 124) = true := by rw [hT0]; rfl
  have e2 : (T != 64 && T != 127 && T != 126) = true := by rw [hT0]; rfl
  rw [e1, e2] at hQ
  have HQ := Lib.hid hQ
  have HT := Lib.hid hT
  have HE1 := Lib.hid he1
  clear hT hQ hT0 e1 e2 he1
  have hq17 : ((B : Int) == 17) = false := beq_eq_false_iff_ne.2 (by omega)
  have HQE := Lib.hid hq
  have HI := Lib.hid hi
  have HS := Lib.hid hsm
  clear h17 hq hi hsm
  have X1 := Lib.hid (XE.new h)
  have HONE := Lib.hid (rf_one _ X1.out.rd hb)
  clear h hb
  go_enter Tryz.func90, Tryz.ntmps90
  go_upto_region 1 with fail
  obtain ⟨W1, hW1⟩ : ∃ W1, w.alloc (.cells #[.int .i64 0, .int .i64 0, .int .i64 0, .slice none 0 0] 33) = W1 := ⟨_, rfl⟩
  rw [hW1] at HONE X1 ⊢
  clear hW1
  go_wp2_with fail
  refine HONE.out.mono ?_
  rintro e w2 ⟨rfl, h2, k2⟩
  have X2 := Lib.hid (X1.out.step h2 k2)
  have a3 := h2.c3
  clear h2 k2
  rw [HQE.out] at a3
  go_wp2_with fail
  refine (rfloat_any (B : Int) w2).mono ?_
  rintro e w3 ⟨rfl, rfl⟩
  rw [hfl]
  go_wp2_with fail
  refine (rof_any (B : Int) w2 nm ps rs 1 true HI.out HS.out).mono ?_
  rintro e w5 ⟨rfl, c5⟩
  have X5 := Lib.hid (X2.out.later c5)
  clear c5 a3
  go_upto_region 9 with fail
  obtain ⟨W6, hW6⟩ : ∃ W6, w5.alloc (.cells #[.string nm, .int .i64 1, .string ps, .string rs] 121) = W6 := ⟨_, rfl⟩
  have B6 : Below w5.heap.size w5 W6 := by rw [← hW6]; exact (Below.refl _ _).alloc (Nat.le_refl _) _
  have i1 := cell_of_row W6 _ 1 _ _ _ (show W6.heap[w5.heap.size]? = some (.cells #[.string nm, .int .i64 1, .string ps, .string rs] 121 (0, 0)) by rw [← hW6]; exact heap_alloc_new _ _)
  have X6 := Lib.hid (X5.out.later B6)
  have z6 : w5.heap.size < W6.heap.size := by rw [← hW6]; simp
  have n6 : w.heap.size < w5.heap.size := X5.out.size
  rw [hW6]
  clear hW6 B6
  go_upto_region 13 with fail
  obtain ⟨W8, hW8⟩ : ∃ W8, W6.alloc (.cells #[.int .i64 (B : Int), .int .i64 0, .int .i64 0, .slice none 0 0] 33) = W8 := ⟨_, rfl⟩
  have B8 : Below W6.heap.size W6 W8 := by rw [← hW8]; exact (Below.refl _ _).alloc (Nat.le_refl _) _
  have X8 := Lib.hid (show XF w rb en W6.heap.size S #[.int .i64 (B : Int), .int .i64 0, .int .i64 0, .slice none 0 0] q W8 from ⟨X6.out.later B8, by rw [← hW8]; exact heap_alloc_new _ _, by omega⟩)
  replace i1 := cell_later B8 i1
  rw [hW8]
  clear hW8 B8 n6
  generalize W6.heap.size = xb at *
  go_wp2_with fail
  refine (rf_one _ X8.out.base.rd HT.out).mono ?_
  rintro e w9 ⟨rfl, h9, k9⟩
  have X9 := Lib.hid (X8.out.step h9 k9)
  have a3 := h9.c3
  clear h9 k9
  rw [HE1.out] at a3
  have f3 := X9.out.base.rd.fz 3
  have hS := X9.out.base.rd.setE 3
  obtain ⟨W10, hW10⟩ : ∃ W10, w9.setCell ⟨rb, 3, none⟩ (.int .i64 3) = W10 := ⟨_, rfl⟩
  rw [hW10] at hS
  have X10 := Lib.hid (X9.out.step hS (by rw [← hW10]; exact kr_set _ _ _ _))
  have HW10 := Lib.hid hW10
  clear hW10 hS
  go_upto_region 18 with fail
  rw [HW10.out]
  clear a3 f3
  go_wp2_with fail
  refine (rf_fails _ X10.out.base.rd 2).mono ?_
  rintro e w11 ⟨rfl, h11, k11⟩
  have X11 := Lib.hid (X10.out.step h11 k11)
  clear h11 k11
  have HQ2 := HQ.out
  rw [fail_yes HE1.out] at HQ2
  rw [HQ2] at X11
  clear HQ2
  have f1 := X11.out.fz 1
  have t1 := X11.out.cell 1 (.int .i64 0) rfl
  have X12 := Lib.hid (X11.out.set 1 (.int .i64 (T : Int)))
  obtain ⟨W12, hW12⟩ : ∃ W12, w11.setCell ⟨xb, 1, none⟩ (.int .i64 (T : Int)) = W12 := ⟨_, rfl⟩
  rw [hW12] at X12
  have HW12 := Lib.hid hW12
  clear hW12
  go_upto_region 39 with fail
  rw [HW12.out]
  clear f1 t1
  have b0 := X12.out.cell 0 (.int .i64 (B : Int)) rfl
  have b1 := X12.out.cell 1 (.int .i64 (T : Int)) rfl
  have b2 := X12.out.cell 2 (.int .i64 0) rfl
  have b3 := X12.out.cell 3 (.slice none 0 0) rfl
  have f0 := X12.out.base.fz 0
  have f1 := X12.out.base.fz 1
  have f2 := X12.out.base.fz 2
  have f3 := X12.out.base.fz 3
  have t0 := X12.out.base.cell 0 (.int .i64 0) rfl
  have t1 := X12.out.base.cell 1 (.int .i64 0) rfl
  have t2 := X12.out.base.cell 2 (.int .i64 0) rfl
  have t3 := X12.out.base.cell 3 (.slice none 0 0) rfl
  obtain ⟨W20, hW20⟩ : ∃ W20, (((W12.setCell ⟨w.heap.size, 0, none⟩ (.int .i64 (B : Int))).setCell ⟨w.heap.size, 1, none⟩ (.int .i64 (T : Int))).setCell ⟨w.heap.size, 2, none⟩ (.int .i64 0)).setCell ⟨w.heap.size, 3, none⟩ (.slice none 0 0) = W20 := ⟨_, rfl⟩
  have hput := xe_put X12.out.base _ _ _ _ hW20
  have HP := Lib.hid hput
  have HW20 := Lib.hid hW20
  have r0 : W20.cell? ⟨w.heap.size, 0, none⟩ = some (.int .i64 (B : Int)) := cell_of_row W20 _ 0 _ _ _ hput.1
  have r1 : W20.cell? ⟨w.heap.size, 1, none⟩ = some (.int .i64 (T : Int)) := cell_of_row W20 _ 1 _ _ _ hput.1
  have r2 : W20.cell? ⟨w.heap.size, 2, none⟩ = some (.int .i64 0) := cell_of_row W20 _ 2 _ _ _ hput.1
  have r3 : W20.cell? ⟨w.heap.size, 3, none⟩ = some (.slice none 0 0) := cell_of_row W20 _ 3 _ _ _ hput.1
  clear hW20 hput
  go_wp2_with fail
  rw [HW20.out]
  (try simp only [Exit.inBlock, Exit.then])
  refine bodyPost_ret (v := .agg #[.int .i64 (B : Int), .int .i64 (T : Int), .int .i64 0, .slice none 0 0]) (by simp [results, Tryz.results90, go_sem, r0, r1, r2, r3]) rfl ?_
  exact ⟨⟨(B : Int), (T : Int), 0, []⟩, _, rfl, own_nil _ _ _ _, Nat.zero_le _, fun _ => rfl, HP.out.2.1, HP.out.2.2.1⟩
set_option maxRecDepth 100000 in
set_option maxHeartbeats 4000000 in
theorem rfi_s1_64 (h : RfAt w rb S en r) {B : Nat} {q : RS} (hb : oneP (cutS S en) r = (B, q)) (hfl : floatB (B : Int) = false) (h17 : B ≠ 17) (nm ps rs : ByteArray) (hi : (opInfo (B : Int)).getD zeroI = ⟨nm, 1, ps, rs⟩) (hsm : (opInfo (B : Int)).isSome = true) (hq : q.e = 0) {T : Nat} {q1 Q : RS} (hT : oneP (cutS S en) q = (T, q1)) (hT0 : T = 64) (he1 : q1.e = 0) (hQ : failP (T != 64 && T != 127 && T != 126) 2 (failP (T == 125 || T == 124) 3 q1) = Q) :
    Calls Tryz.prog 90 #[.pointer (some ⟨rb, 0, none⟩)] w (GotF w rb en S ⟨(B : Int), (T : Int), 0, []⟩ Q) := by
  have hz125e : ((T : Int) == 125) = false := by rw [hT0]; rfl
  have hz125n : ((T : Int) != 125) = true := by rw [hT0]; rfl
  have hz124e : ((T : Int) == 124) = false := by rw [hT0]; rfl
  have hz124n : ((T : Int) != 124) = true := by rw [hT0]; rfl
  have hz64e : ((T : Int) == 64) = true := by rw [hT0]; rfl
  have hz64n : ((T : Int) != 64) = false := by rw [hT0]; rfl
  have hz127e : ((T : Int) == 127) = false := by rw [hT0]; rfl
  have hz127n : ((T : Int) != 127) = true := by rw [hT0]; rfl
  have hz126e : ((T : Int) == 126) = false := by rw [hT0]; rfl
  have hz126n : ((T : Int) != 126) = true := by rw [hT0]; rfl
  have e1 : (T == 125 || T == 124) = false := by rw [hT0]; rfl
  have e2 : (T != 64 && T != 127 && T != 126) = false := by rw [hT0]; rfl
  rw [e1, e2] at hQ
  have HQ := Lib.hid hQ
  have HT := Lib.hid hT
  have HE1 := Lib.hid he1
  clear hT hQ hT0 e1 e2 he1
  have hq17 : ((B : Int) == 17) = false := beq_eq_false_iff_ne.2 (by omega)
  have HQE := Lib.hid hq
  have HI := Lib.hid hi
  have HS := Lib.hid hsm
  clear h17 hq hi hsm
  have X1 := Lib.hid (XE.new h)
  have HONE := Lib.hid (rf_one _ X1.out.rd hb)
  clear h hb
  go_enter Tryz.func90, Tryz.ntmps90
  go_upto_region 1 with fail
  obtain ⟨W1, hW1⟩ : ∃ W1, w.alloc (.cells #[.int .i64 0, .int .i64 0, .int .i64 0, .slice none 0 0] 33) = W1 := ⟨_, rfl⟩
  rw [hW1] at HONE X1 ⊢
  clear hW1
  go_wp2_with fail
  refine HONE.out.mono ?_
  rintro e w2 ⟨rfl, h2, k2⟩
  have X2 := Lib.hid (X1.out.step h2 k2)
  have a3 := h2.c3
  clear h2 k2
  rw [HQE.out] at a3
  go_wp2_with fail
  refine (rfloat_any (B : Int) w2).mono ?_
  rintro e w3 ⟨rfl, rfl⟩
  rw [hfl]
  go_wp2_with fail
  refine (rof_any (B : Int) w2 nm ps rs 1 true HI.out HS.out).mono ?_
  rintro e w5 ⟨rfl, c5⟩
  have X5 := Lib.hid (X2.out.later c5)
  clear c5 a3
  go_upto_region 9 with fail
  obtain ⟨W6, hW6⟩ : ∃ W6, w5.alloc (.cells #[.string nm, .int .i64 1, .string ps, .string rs] 121) = W6 := ⟨_, rfl⟩
  have B6 : Below w5.heap.size w5 W6 := by rw [← hW6]; exact (Below.refl _ _).alloc (Nat.le_refl _) _
  have i1 := cell_of_row W6 _ 1 _ _ _ (show W6.heap[w5.heap.size]? = some (.cells #[.string nm, .int .i64 1, .string ps, .string rs] 121 (0, 0)) by rw [← hW6]; exact heap_alloc_new _ _)
  have X6 := Lib.hid (X5.out.later B6)
  have z6 : w5.heap.size < W6.heap.size := by rw [← hW6]; simp
  have n6 : w.heap.size < w5.heap.size := X5.out.size
  rw [hW6]
  clear hW6 B6
  go_upto_region 13 with fail
  obtain ⟨W8, hW8⟩ : ∃ W8, W6.alloc (.cells #[.int .i64 (B : Int), .int .i64 0, .int .i64 0, .slice none 0 0] 33) = W8 := ⟨_, rfl⟩
  have B8 : Below W6.heap.size W6 W8 := by rw [← hW8]; exact (Below.refl _ _).alloc (Nat.le_refl _) _
  have X8 := Lib.hid (show XF w rb en W6.heap.size S #[.int .i64 (B : Int), .int .i64 0, .int .i64 0, .slice none 0 0] q W8 from ⟨X6.out.later B8, by rw [← hW8]; exact heap_alloc_new _ _, by omega⟩)
  replace i1 := cell_later B8 i1
  rw [hW8]
  clear hW8 B8 n6
  generalize W6.heap.size = xb at *
  go_wp2_with fail
  refine (rf_one _ X8.out.base.rd HT.out).mono ?_
  rintro e w9 ⟨rfl, h9, k9⟩
  have X9 := Lib.hid (X8.out.step h9 k9)
  have a3 := h9.c3
  clear h9 k9
  rw [HE1.out] at a3
  have HQ2 := HQ.out
  rw [fail_ok, fail_ok] at HQ2
  rw [HQ2] at X9
  clear HQ2
  have f1 := X9.out.fz 1
  have t1 := X9.out.cell 1 (.int .i64 0) rfl
  have X10 := Lib.hid (X9.out.set 1 (.int .i64 (T : Int)))
  obtain ⟨W10, hW10⟩ : ∃ W10, w9.setCell ⟨xb, 1, none⟩ (.int .i64 (T : Int)) = W10 := ⟨_, rfl⟩
  rw [hW10] at X10
  have HW10 := Lib.hid hW10
  clear hW10
  go_upto_region 39 with fail
  rw [HW10.out]
  clear f1 t1
  have b0 := X10.out.cell 0 (.int .i64 (B : Int)) rfl
  have b1 := X10.out.cell 1 (.int .i64 (T : Int)) rfl
  have b2 := X10.out.cell 2 (.int .i64 0) rfl
  have b3 := X10.out.cell 3 (.slice none 0 0) rfl
  have f0 := X10.out.base.fz 0
  have f1 := X10.out.base.fz 1
  have f2 := X10.out.base.fz 2
  have f3 := X10.out.base.fz 3
  have t0 := X10.out.base.cell 0 (.int .i64 0) rfl
  have t1 := X10.out.base.cell 1 (.int .i64 0) rfl
  have t2 := X10.out.base.cell 2 (.int .i64 0) rfl
  have t3 := X10.out.base.cell 3 (.slice none 0 0) rfl
  obtain ⟨W20, hW20⟩ : ∃ W20, (((W10.setCell ⟨w.heap.size, 0, none⟩ (.int .i64 (B : Int))).setCell ⟨w.heap.size, 1, none⟩ (.int .i64 (T : Int))).setCell ⟨w.heap.size, 2, none⟩ (.int .i64 0)).setCell ⟨w.heap.size, 3, none⟩ (.slice none 0 0) = W20 := ⟨_, rfl⟩
  have hput := xe_put X10.out.base _ _ _ _ hW20
  have HP := Lib.hid hput
  have HW20 := Lib.hid hW20
  have r0 : W20.cell? ⟨w.heap.size, 0, none⟩ = some (.int .i64 (B : Int)) := cell_of_row W20 _ 0 _ _ _ hput.1
  have r1 : W20.cell? ⟨w.heap.size, 1, none⟩ = some (.int .i64 (T : Int)) := cell_of_row W20 _ 1 _ _ _ hput.1
  have r2 : W20.cell? ⟨w.heap.size, 2, none⟩ = some (.int .i64 0) := cell_of_row W20 _ 2 _ _ _ hput.1
  have r3 : W20.cell? ⟨w.heap.size, 3, none⟩ = some (.slice none 0 0) := cell_of_row W20 _ 3 _ _ _ hput.1
  clear hW20 hput
  go_wp2_with fail
  rw [HW20.out]
  (try simp only [Exit.inBlock, Exit.then])
  refine bodyPost_ret (v := .agg #[.int .i64 (B : Int), .int .i64 (T : Int), .int .i64 0, .slice none 0 0]) (by simp [results, Tryz.results90, go_sem, r0, r1, r2, r3]) rfl ?_
  exact ⟨⟨(B : Int), (T : Int), 0, []⟩, _, rfl, own_nil _ _ _ _, Nat.zero_le _, fun _ => rfl, HP.out.2.1, HP.out.2.2.1⟩
set_option maxRecDepth 100000 in
set_option maxHeartbeats 4000000 in
theorem rfi_s1_127 (h : RfAt w rb S en r) {B : Nat} {q : RS} (hb : oneP (cutS S en) r = (B, q)) (hfl : floatB (B : Int) = false) (h17 : B ≠ 17) (nm ps rs : ByteArray) (hi : (opInfo (B : Int)).getD zeroI = ⟨nm, 1, ps, rs⟩) (hsm : (opInfo (B : Int)).isSome = true) (hq : q.e = 0) {T : Nat} {q1 Q : RS} (hT : oneP (cutS S en) q = (T, q1)) (hT0 : T = 127) (he1 : q1.e = 0) (hQ : failP (T != 64 && T != 127 && T != 126) 2 (failP (T == 125 || T == 124) 3 q1) = Q) :
    Calls Tryz.prog 90 #[.pointer (some ⟨rb, 0, none⟩)] w (GotF w rb en S ⟨(B : Int), (T : Int), 0, []⟩ Q) := by
  have hz125e : ((T : Int) == 125) = false := by rw [hT0]; rfl
  have hz125n : ((T : Int) != 125) = true := by rw [hT0]; rfl
  have hz124e : ((T : Int) == 124) = false := by rw [hT0]; rfl
  have hz124n : ((T : Int) != 124) = true := by rw [hT0]; rfl
  have hz64e : ((T : Int) == 64) = false := by rw [hT0]; rfl
  have hz64n : ((T : Int) != 64) = true := by rw [hT0]; rfl
  have hz127e : ((T : Int) == 127) = true := by rw [hT0]; rfl
  have hz127n : ((T : Int) != 127) = false := by rw [hT0]; rfl
  have hz126e : ((T : Int) == 126) = false := by rw [hT0]; rfl
  have hz126n : ((T : Int) != 126) = true := by rw [hT0]; rfl
  have e1 : (T == 125 || T == 124) = false := by rw [hT0]; rfl
  have e2 : (T != 64 && T != 127 && T != 126) = false := by rw [hT0]; rfl
  rw [e1, e2] at hQ
  have HQ := Lib.hid hQ
  have HT := Lib.hid hT
  have HE1 := Lib.hid he1
  clear hT hQ hT0 e1 e2 he1
  have hq17 : ((B : Int) == 17) = false := beq_eq_false_iff_ne.2 (by omega)
  have HQE := Lib.hid hq
  have HI := Lib.hid hi
  have HS := Lib.hid hsm
  clear h17 hq hi hsm
  have X1 := Lib.hid (XE.new h)
  have HONE := Lib.hid (rf_one _ X1.out.rd hb)
  clear h hb
  go_enter Tryz.func90, Tryz.ntmps90
  go_upto_region 1 with fail
  obtain ⟨W1, hW1⟩ : ∃ W1, w.alloc (.cells #[.int .i64 0, .int .i64 0, .int .i64 0, .slice none 0 0] 33) = W1 := ⟨_, rfl⟩
  rw [hW1] at HONE X1 ⊢
  clear hW1
  go_wp2_with fail
  refine HONE.out.mono ?_
  rintro e w2 ⟨rfl, h2, k2⟩
  have X2 := Lib.hid (X1.out.step h2 k2)
  have a3 := h2.c3
  clear h2 k2
  rw [HQE.out] at a3
  go_wp2_with fail
  refine (rfloat_any (B : Int) w2).mono ?_
  rintro e w3 ⟨rfl, rfl⟩
  rw [hfl]
  go_wp2_with fail
  refine (rof_any (B : Int) w2 nm ps rs 1 true HI.out HS.out).mono ?_
  rintro e w5 ⟨rfl, c5⟩
  have X5 := Lib.hid (X2.out.later c5)
  clear c5 a3
  go_upto_region 9 with fail
  obtain ⟨W6, hW6⟩ : ∃ W6, w5.alloc (.cells #[.string nm, .int .i64 1, .string ps, .string rs] 121) = W6 := ⟨_, rfl⟩
  have B6 : Below w5.heap.size w5 W6 := by rw [← hW6]; exact (Below.refl _ _).alloc (Nat.le_refl _) _
  have i1 := cell_of_row W6 _ 1 _ _ _ (show W6.heap[w5.heap.size]? = some (.cells #[.string nm, .int .i64 1, .string ps, .string rs] 121 (0, 0)) by rw [← hW6]; exact heap_alloc_new _ _)
  have X6 := Lib.hid (X5.out.later B6)
  have z6 : w5.heap.size < W6.heap.size := by rw [← hW6]; simp
  have n6 : w.heap.size < w5.heap.size := X5.out.size
  rw [hW6]
  clear hW6 B6
  go_upto_region 13 with fail
  obtain ⟨W8, hW8⟩ : ∃ W8, W6.alloc (.cells #[.int .i64 (B : Int), .int .i64 0, .int .i64 0, .slice none 0 0] 33) = W8 := ⟨_, rfl⟩
  have B8 : Below W6.heap.size W6 W8 := by rw [← hW8]; exact (Below.refl _ _).alloc (Nat.le_refl _) _
  have X8 := Lib.hid (show XF w rb en W6.heap.size S #[.int .i64 (B : Int), .int .i64 0, .int .i64 0, .slice none 0 0] q W8 from ⟨X6.out.later B8, by rw [← hW8]; exact heap_alloc_new _ _, by omega⟩)
  replace i1 := cell_later B8 i1
  rw [hW8]
  clear hW8 B8 n6
  generalize W6.heap.size = xb at *
  go_wp2_with fail
  refine (rf_one _ X8.out.base.rd HT.out).mono ?_
  rintro e w9 ⟨rfl, h9, k9⟩
  have X9 := Lib.hid (X8.out.step h9 k9)
  have a3 := h9.c3
  clear h9 k9
  rw [HE1.out] at a3
  have HQ2 := HQ.out
  rw [fail_ok, fail_ok] at HQ2
  rw [HQ2] at X9
  clear HQ2
  have f1 := X9.out.fz 1
  have t1 := X9.out.cell 1 (.int .i64 0) rfl
  have X10 := Lib.hid (X9.out.set 1 (.int .i64 (T : Int)))
  obtain ⟨W10, hW10⟩ : ∃ W10, w9.setCell ⟨xb, 1, none⟩ (.int .i64 (T : Int)) = W10 := ⟨_, rfl⟩
  rw [hW10] at X10
  have HW10 := Lib.hid hW10
  clear hW10
  go_upto_region 39 with fail
  rw [HW10.out]
  clear f1 t1
  have b0 := X10.out.cell 0 (.int .i64 (B : Int)) rfl
  have b1 := X10.out.cell 1 (.int .i64 (T : Int)) rfl
  have b2 := X10.out.cell 2 (.int .i64 0) rfl
  have b3 := X10.out.cell 3 (.slice none 0 0) rfl
  have f0 := X10.out.base.fz 0
  have f1 := X10.out.base.fz 1
  have f2 := X10.out.base.fz 2
  have f3 := X10.out.base.fz 3
  have t0 := X10.out.base.cell 0 (.int .i64 0) rfl
  have t1 := X10.out.base.cell 1 (.int .i64 0) rfl
  have t2 := X10.out.base.cell 2 (.int .i64 0) rfl
  have t3 := X10.out.base.cell 3 (.slice none 0 0) rfl
  obtain ⟨W20, hW20⟩ : ∃ W20, (((W10.setCell ⟨w.heap.size, 0, none⟩ (.int .i64 (B : Int))).setCell ⟨w.heap.size, 1, none⟩ (.int .i64 (T : Int))).setCell ⟨w.heap.size, 2, none⟩ (.int .i64 0)).setCell ⟨w.heap.size, 3, none⟩ (.slice none 0 0) = W20 := ⟨_, rfl⟩
  have hput := xe_put X10.out.base _ _ _ _ hW20
  have HP := Lib.hid hput
  have HW20 := Lib.hid hW20
  have r0 : W20.cell? ⟨w.heap.size, 0, none⟩ = some (.int .i64 (B : Int)) := cell_of_row W20 _ 0 _ _ _ hput.1
  have r1 : W20.cell? ⟨w.heap.size, 1, none⟩ = some (.int .i64 (T : Int)) := cell_of_row W20 _ 1 _ _ _ hput.1
  have r2 : W20.cell? ⟨w.heap.size, 2, none⟩ = some (.int .i64 0) := cell_of_row W20 _ 2 _ _ _ hput.1
  have r3 : W20.cell? ⟨w.heap.size, 3, none⟩ = some (.slice none 0 0) := cell_of_row W20 _ 3 _ _ _ hput.1
  clear hW20 hput
  go_wp2_with fail
  rw [HW20.out]
  (try simp only [Exit.inBlock, Exit.then])
  refine bodyPost_ret (v := .agg #[.int .i64 (B : Int), .int .i64 (T : Int), .int .i64 0, .slice none 0 0]) (by simp [results, Tryz.results90, go_sem, r0, r1, r2, r3]) rfl ?_
  exact ⟨⟨(B : Int), (T : Int), 0, []⟩, _, rfl, own_nil _ _ _ _, Nat.zero_le _, fun _ => rfl, HP.out.2.1, HP.out.2.2.1⟩
set_option maxRecDepth 100000 in
set_option maxHeartbeats 4000000 in
theorem rfi_s1_126 (h : RfAt w rb S en r) {B : Nat} {q : RS} (hb : oneP (cutS S en) r = (B, q)) (hfl : floatB (B : Int) = false) (h17 : B ≠ 17) (nm ps rs : ByteArray) (hi : (opInfo (B : Int)).getD zeroI = ⟨nm, 1, ps, rs⟩) (hsm : (opInfo (B : Int)).isSome = true) (hq : q.e = 0) {T : Nat} {q1 Q : RS} (hT : oneP (cutS S en) q = (T, q1)) (hT0 : T = 126) (he1 : q1.e = 0) (hQ : failP (T != 64 && T != 127 && T != 126) 2 (failP (T == 125 || T == 124) 3 q1) = Q) :
    Calls Tryz.prog 90 #[.pointer (some ⟨rb, 0, none⟩)] w (GotF w rb en S ⟨(B : Int), (T : Int), 0, []⟩ Q) := by
  have hz125e : ((T : Int) == 125) = false := by rw [hT0]; rfl
  have hz125n : ((T : Int) != 125) = true := by rw [hT0]; rfl
  have hz124e : ((T : Int) == 124) = false := by rw [hT0]; rfl
  have hz124n : ((T : Int) != 124) = true := by rw [hT0]; rfl
  have hz64e : ((T : Int) == 64) = false := by rw [hT0]; rfl
  have hz64n : ((T : Int) != 64) = true := by rw [hT0]; rfl
  have hz127e : ((T : Int) == 127) = false := by rw [hT0]; rfl
  have hz127n : ((T : Int) != 127) = true := by rw [hT0]; rfl
  have hz126e : ((T : Int) == 126) = true := by rw [hT0]; rfl
  have hz126n : ((T : Int) != 126) = false := by rw [hT0]; rfl
  have e1 : (T == 125 || T == 124) = false := by rw [hT0]; rfl
  have e2 : (T != 64 && T != 127 && T != 126) = false := by rw [hT0]; rfl
  rw [e1, e2] at hQ
  have HQ := Lib.hid hQ
  have HT := Lib.hid hT
  have HE1 := Lib.hid he1
  clear hT hQ hT0 e1 e2 he1
  have hq17 : ((B : Int) == 17) = false := beq_eq_false_iff_ne.2 (by omega)
  have HQE := Lib.hid hq
  have HI := Lib.hid hi
  have HS := Lib.hid hsm
  clear h17 hq hi hsm
  have X1 := Lib.hid (XE.new h)
  have HONE := Lib.hid (rf_one _ X1.out.rd hb)
  clear h hb
  go_enter Tryz.func90, Tryz.ntmps90
  go_upto_region 1 with fail
  obtain ⟨W1, hW1⟩ : ∃ W1, w.alloc (.cells #[.int .i64 0, .int .i64 0, .int .i64 0, .slice none 0 0] 33) = W1 := ⟨_, rfl⟩
  rw [hW1] at HONE X1 ⊢
  clear hW1
  go_wp2_with fail
  refine HONE.out.mono ?_
  rintro e w2 ⟨rfl, h2, k2⟩
  have X2 := Lib.hid (X1.out.step h2 k2)
  have a3 := h2.c3
  clear h2 k2
  rw [HQE.out] at a3
  go_wp2_with fail
  refine (rfloat_any (B : Int) w2).mono ?_
  rintro e w3 ⟨rfl, rfl⟩
  rw [hfl]
  go_wp2_with fail
  refine (rof_any (B : Int) w2 nm ps rs 1 true HI.out HS.out).mono ?_
  rintro e w5 ⟨rfl, c5⟩
  have X5 := Lib.hid (X2.out.later c5)
  clear c5 a3
  go_upto_region 9 with fail
  obtain ⟨W6, hW6⟩ : ∃ W6, w5.alloc (.cells #[.string nm, .int .i64 1, .string ps, .string rs] 121) = W6 := ⟨_, rfl⟩
  have B6 : Below w5.heap.size w5 W6 := by rw [← hW6]; exact (Below.refl _ _).alloc (Nat.le_refl _) _
  have i1 := cell_of_row W6 _ 1 _ _ _ (show W6.heap[w5.heap.size]? = some (.cells #[.string nm, .int .i64 1, .string ps, .string rs] 121 (0, 0)) by rw [← hW6]; exact heap_alloc_new _ _)
  have X6 := Lib.hid (X5.out.later B6)
  have z6 : w5.heap.size < W6.heap.size := by rw [← hW6]; simp
  have n6 : w.heap.size < w5.heap.size := X5.out.size
  rw [hW6]
  clear hW6 B6
  go_upto_region 13 with fail
  obtain ⟨W8, hW8⟩ : ∃ W8, W6.alloc (.cells #[.int .i64 (B : Int), .int .i64 0, .int .i64 0, .slice none 0 0] 33) = W8 := ⟨_, rfl⟩
  have B8 : Below W6.heap.size W6 W8 := by rw [← hW8]; exact (Below.refl _ _).alloc (Nat.le_refl _) _
  have X8 := Lib.hid (show XF w rb en W6.heap.size S #[.int .i64 (B : Int), .int .i64 0, .int .i64 0, .slice none 0 0] q W8 from ⟨X6.out.later B8, by rw [← hW8]; exact heap_alloc_new _ _, by omega⟩)
  replace i1 := cell_later B8 i1
  rw [hW8]
  clear hW8 B8 n6
  generalize W6.heap.size = xb at *
  go_wp2_with fail
  refine (rf_one _ X8.out.base.rd HT.out).mono ?_
  rintro e w9 ⟨rfl, h9, k9⟩
  have X9 := Lib.hid (X8.out.step h9 k9)
  have a3 := h9.c3
  clear h9 k9
  rw [HE1.out] at a3
  have HQ2 := HQ.out
  rw [fail_ok, fail_ok] at HQ2
  rw [HQ2] at X9
  clear HQ2
  have f1 := X9.out.fz 1
  have t1 := X9.out.cell 1 (.int .i64 0) rfl
  have X10 := Lib.hid (X9.out.set 1 (.int .i64 (T : Int)))
  obtain ⟨W10, hW10⟩ : ∃ W10, w9.setCell ⟨xb, 1, none⟩ (.int .i64 (T : Int)) = W10 := ⟨_, rfl⟩
  rw [hW10] at X10
  have HW10 := Lib.hid hW10
  clear hW10
  go_upto_region 39 with fail
  rw [HW10.out]
  clear f1 t1
  have b0 := X10.out.cell 0 (.int .i64 (B : Int)) rfl
  have b1 := X10.out.cell 1 (.int .i64 (T : Int)) rfl
  have b2 := X10.out.cell 2 (.int .i64 0) rfl
  have b3 := X10.out.cell 3 (.slice none 0 0) rfl
  have f0 := X10.out.base.fz 0
  have f1 := X10.out.base.fz 1
  have f2 := X10.out.base.fz 2
  have f3 := X10.out.base.fz 3
  have t0 := X10.out.base.cell 0 (.int .i64 0) rfl
  have t1 := X10.out.base.cell 1 (.int .i64 0) rfl
  have t2 := X10.out.base.cell 2 (.int .i64 0) rfl
  have t3 := X10.out.base.cell 3 (.slice none 0 0) rfl
  obtain ⟨W20, hW20⟩ : ∃ W20, (((W10.setCell ⟨w.heap.size, 0, none⟩ (.int .i64 (B : Int))).setCell ⟨w.heap.size, 1, none⟩ (.int .i64 (T : Int))).setCell ⟨w.heap.size, 2, none⟩ (.int .i64 0)).setCell ⟨w.heap.size, 3, none⟩ (.slice none 0 0) = W20 := ⟨_, rfl⟩
  have hput := xe_put X10.out.base _ _ _ _ hW20
  have HP := Lib.hid hput
  have HW20 := Lib.hid hW20
  have r0 : W20.cell? ⟨w.heap.size, 0, none⟩ = some (.int .i64 (B : Int)) := cell_of_row W20 _ 0 _ _ _ hput.1
  have r1 : W20.cell? ⟨w.heap.size, 1, none⟩ = some (.int .i64 (T : Int)) := cell_of_row W20 _ 1 _ _ _ hput.1
  have r2 : W20.cell? ⟨w.heap.size, 2, none⟩ = some (.int .i64 0) := cell_of_row W20 _ 2 _ _ _ hput.1
  have r3 : W20.cell? ⟨w.heap.size, 3, none⟩ = some (.slice none 0 0) := cell_of_row W20 _ 3 _ _ _ hput.1
  clear hW20 hput
  go_wp2_with fail
  rw [HW20.out]
  (try simp only [Exit.inBlock, Exit.then])
  refine bodyPost_ret (v := .agg #[.int .i64 (B : Int), .int .i64 (T : Int), .int .i64 0, .slice none 0 0]) (by simp [results, Tryz.results90, go_sem, r0, r1, r2, r3]) rfl ?_
  exact ⟨⟨(B : Int), (T : Int), 0, []⟩, _, rfl, own_nil _ _ _ _, Nat.zero_le _, fun _ => rfl, HP.out.2.1, HP.out.2.2.1⟩
set_option maxRecDepth 100000 in
set_option maxHeartbeats 4000000 in
theorem rfi_s1_o (h : RfAt w rb S en r) {B : Nat} {q : RS} (hb : oneP (cutS S en) r = (B, q)) (hfl : floatB (B : Int) = false) (h17 : B ≠ 17) (nm ps rs : ByteArray) (hi : (opInfo (B : Int)).getD zeroI = ⟨nm, 1, ps, rs⟩) (hsm : (opInfo (B : Int)).isSome = true) (hq : q.e = 0) {T : Nat} {q1 Q : RS} (hT : oneP (cutS S en) q = (T, q1)) (hT0 : T ≠ 125 ∧ T ≠ 124 ∧ T ≠ 64 ∧ T ≠ 127 ∧ T ≠ 126) (he1 : q1.e = 0) (hQ : failP (T != 64 && T != 127 && T != 126) 2 (failP (T == 125 || T == 124) 3 q1) = Q) :
    Calls Tryz.prog 90 #[.pointer (some ⟨rb, 0, none⟩)] w (GotF w rb en S ⟨(B : Int), (T : Int), 0, []⟩ Q) := by
  have hz125e : ((T : Int) == 125) = false := beq_eq_false_iff_ne.2 (by omega)
  have hz125n : ((T : Int) != 125) = true := bne_iff_ne.2 (by omega)
  have hz124e : ((T : Int) == 124) = false := beq_eq_false_iff_ne.2 (by omega)
  have hz124n : ((T : Int) != 124) = true := bne_iff_ne.2 (by omega)
  have hz64e : ((T : Int) == 64) = false := beq_eq_false_iff_ne.2 (by omega)
  have hz64n : ((T : Int) != 64) = true := bne_iff_ne.2 (by omega)
  have hz127e : ((T : Int) == 127) = false := beq_eq_false_iff_ne.2 (by omega)
  have hz127n : ((T : Int) != 127) = true := bne_iff_ne.2 (by omega)
  have hz126e : ((T : Int) == 126) = false := beq_eq_false_iff_ne.2 (by omega)
  have hz126n : ((T : Int) != 126) = true := bne_iff_ne.2 (by omega)
  have e1 : (T == 125 || T == 124) = false := by obtain ⟨h1, h2, h3, h4, h5⟩ := hT0; simp [h1, h2, h3, h4, h5]
  have e2 : (T != 64 && T != 127 && T != 126) = true := by obtain ⟨h1, h2, h3, h4, h5⟩ := hT0; simp [h1, h2, h3, h4, h5]
  rw [e1, e2] at hQ
  have HQ := Lib.hid hQ
  have HT := Lib.hid hT
  have HE1 := Lib.hid he1
  clear hT hQ hT0 e1 e2 he1
  have hq17 : ((B : Int) == 17) = false := beq_eq_false_iff_ne.2 (by omega)
  have HQE := Lib.hid hq
  have HI := Lib.hid hi
  have HS := Lib.hid hsm
  clear h17 hq hi hsm
  have X1 := Lib.hid (XE.new h)
  have HONE := Lib.hid (rf_one _ X1.out.rd hb)
  clear h hb
  go_enter Tryz.func90, Tryz.ntmps90
  go_upto_region 1 with fail
  obtain ⟨W1, hW1⟩ : ∃ W1, w.alloc (.cells #[.int .i64 0, .int .i64 0, .int .i64 0, .slice none 0 0] 33) = W1 := ⟨_, rfl⟩
  rw [hW1] at HONE X1 ⊢
  clear hW1
  go_wp2_with fail
  refine HONE.out.mono ?_
  rintro e w2 ⟨rfl, h2, k2⟩
  have X2 := Lib.hid (X1.out.step h2 k2)
  have a3 := h2.c3
  clear h2 k2
  rw [HQE.out] at a3
  go_wp2_with fail
  refine (rfloat_any (B : Int) w2).mono ?_
  rintro e w3 ⟨rfl, rfl⟩
  rw [hfl]
  go_wp2_with fail
  refine (rof_any (B : Int) w2 nm ps rs 1 true HI.out HS.out).mono ?_
  rintro e w5 ⟨rfl, c5⟩
  have X5 := Lib.hid (X2.out.later c5)
  clear c5 a3
  go_upto_region 9 with fail
  obtain ⟨W6, hW6⟩ : ∃ W6, w5.alloc (.cells #[.string nm, .int .i64 1, .string ps, .string rs] 121) = W6 := ⟨_, rfl⟩
  have B6 : Below w5.heap.size w5 W6 := by rw [← hW6]; exact (Below.refl _ _).alloc (Nat.le_refl _) _
  have i1 := cell_of_row W6 _ 1 _ _ _ (show W6.heap[w5.heap.size]? = some (.cells #[.string nm, .int .i64 1, .string ps, .string rs] 121 (0, 0)) by rw [← hW6]; exact heap_alloc_new _ _)
  have X6 := Lib.hid (X5.out.later B6)
  have z6 : w5.heap.size < W6.heap.size := by rw [← hW6]; simp
  have n6 : w.heap.size < w5.heap.size := X5.out.size
  rw [hW6]
  clear hW6 B6
  go_upto_region 13 with fail
  obtain ⟨W8, hW8⟩ : ∃ W8, W6.alloc (.cells #[.int .i64 (B : Int), .int .i64 0, .int .i64 0, .slice none 0 0] 33) = W8 := ⟨_, rfl⟩
  have B8 : Below W6.heap.size W6 W8 := by rw [← hW8]; exact (Below.refl _ _).alloc (Nat.le_refl _) _
  have X8 := Lib.hid (show XF w rb en W6.heap.size S #[.int .i64 (B : Int), .int .i64 0, .int .i64 0, .slice none 0 0] q W8 from ⟨X6.out.later B8, by rw [← hW8]; exact heap_alloc_new _ _, by omega⟩)
  replace i1 := cell_later B8 i1
  rw [hW8]
  clear hW8 B8 n6
  generalize W6.heap.size = xb at *
  go_wp2_with fail
  refine (rf_one _ X8.out.base.rd HT.out).mono ?_
  rintro e w9 ⟨rfl, h9, k9⟩
  have X9 := Lib.hid (X8.out.step h9 k9)
  have a3 := h9.c3
  clear h9 k9
  rw [HE1.out] at a3
  go_wp2_with fail
  refine (rf_fails _ X9.out.base.rd 2).mono ?_
  rintro e w10 ⟨rfl, h10, k10⟩
  have X10 := Lib.hid (X9.out.step h10 k10)
  clear h10 k10
  have HQ2 := HQ.out
  rw [fail_ok] at HQ2
  rw [HQ2] at X10
  clear a3 HQ2
  have f1 := X10.out.fz 1
  have t1 := X10.out.cell 1 (.int .i64 0) rfl
  have X11 := Lib.hid (X10.out.set 1 (.int .i64 (T : Int)))
  obtain ⟨W11, hW11⟩ : ∃ W11, w10.setCell ⟨xb, 1, none⟩ (.int .i64 (T : Int)) = W11 := ⟨_, rfl⟩
  rw [hW11] at X11
  have HW11 := Lib.hid hW11
  clear hW11
  go_upto_region 39 with fail
  rw [HW11.out]
  clear f1 t1
  have b0 := X11.out.cell 0 (.int .i64 (B : Int)) rfl
  have b1 := X11.out.cell 1 (.int .i64 (T : Int)) rfl
  have b2 := X11.out.cell 2 (.int .i64 0) rfl
  have b3 := X11.out.cell 3 (.slice none 0 0) rfl
  have f0 := X11.out.base.fz 0
  have f1 := X11.out.base.fz 1
  have f2 := X11.out.base.fz 2
  have f3 := X11.out.base.fz 3
  have t0 := X11.out.base.cell 0 (.int .i64 0) rfl
  have t1 := X11.out.base.cell 1 (.int .i64 0) rfl
  have t2 := X11.out.base.cell 2 (.int .i64 0) rfl
  have t3 := X11.out.base.cell 3 (.slice none 0 0) rfl
  obtain ⟨W20, hW20⟩ : ∃ W20, (((W11.setCell ⟨w.heap.size, 0, none⟩ (.int .i64 (B : Int))).setCell ⟨w.heap.size, 1, none⟩ (.int .i64 (T : Int))).setCell ⟨w.heap.size, 2, none⟩ (.int .i64 0)).setCell ⟨w.heap.size, 3, none⟩ (.slice none 0 0) = W20 := ⟨_, rfl⟩
  have hput := xe_put X11.out.base _ _ _ _ hW20
  have HP := Lib.hid hput
  have HW20 := Lib.hid hW20
  have r0 : W20.cell? ⟨w.heap.size, 0, none⟩ = some (.int .i64 (B : Int)) := cell_of_row W20 _ 0 _ _ _ hput.1
  have r1 : W20.cell? ⟨w.heap.size, 1, none⟩ = some (.int .i64 (T : Int)) := cell_of_row W20 _ 1 _ _ _ hput.1
  have r2 : W20.cell? ⟨w.heap.size, 2, none⟩ = some (.int .i64 0) := cell_of_row W20 _ 2 _ _ _ hput.1
  have r3 : W20.cell? ⟨w.heap.size, 3, none⟩ = some (.slice none 0 0) := cell_of_row W20 _ 3 _ _ _ hput.1
  clear hW20 hput
  go_wp2_with fail
  rw [HW20.out]
  (try simp only [Exit.inBlock, Exit.then])
  refine bodyPost_ret (v := .agg #[.int .i64 (B : Int), .int .i64 (T : Int), .int .i64 0, .slice none 0 0]) (by simp [results, Tryz.results90, go_sem, r0, r1, r2, r3]) rfl ?_
  exact ⟨⟨(B : Int), (T : Int), 0, []⟩, _, rfl, own_nil _ _ _ _, Nat.zero_le _, fun _ => rfl, HP.out.2.1, HP.out.2.2.1⟩
set_option maxRecDepth 100000 in
set_option maxHeartbeats 4000000 in
theorem rfi_s1_e (h : RfAt w rb S en r) {B : Nat} {q : RS} (hb : oneP (cutS S en) r = (B, q)) (hfl : floatB (B : Int) = false) (h17 : B ≠ 17) (nm ps rs : ByteArray) (hi : (opInfo (B : Int)).getD zeroI = ⟨nm, 1, ps, rs⟩) (hsm : (opInfo (B : Int)).isSome = true) (hq : q.e = 0) {T : Nat} {q1 Q : RS} (hT : oneP (cutS S en) q = (T, q1)) (hT0 : T ≠ 125 ∧ T ≠ 124 ∧ T ≠ 64 ∧ T ≠ 127 ∧ T ≠ 126) (he1 : q1.e ≠ 0) (hQ : failP (T != 64 && T != 127 && T != 126) 2 (failP (T == 125 || T == 124) 3 q1) = Q) :
    Calls Tryz.prog 90 #[.pointer (some ⟨rb, 0, none⟩)] w (GotF w rb en S ⟨(B : Int), (T : Int), 0, []⟩ Q) := by
  have hz125e : ((T : Int) == 125) = false := beq_eq_false_iff_ne.2 (by omega)
  have hz125n : ((T : Int) != 125) = true := bne_iff_ne.2 (by omega)
  have hz124e : ((T : Int) == 124) = false := beq_eq_false_iff_ne.2 (by omega)
  have hz124n : ((T : Int) != 124) = true := bne_iff_ne.2 (by omega)
  have hz64e : ((T : Int) == 64) = false := beq_eq_false_iff_ne.2 (by omega)
  have hz64n : ((T : Int) != 64) = true := bne_iff_ne.2 (by omega)
  have hz127e : ((T : Int) == 127) = false := beq_eq_false_iff_ne.2 (by omega)
  have hz127n : ((T : Int) != 127) = true := bne_iff_ne.2 (by omega)
  have hz126e : ((T : Int) == 126) = false := beq_eq_false_iff_ne.2 (by omega)
  have hz126n : ((T : Int) != 126) = true := bne_iff_ne.2 (by omega)
  have e1 : (T == 125 || T == 124) = false := by obtain ⟨h1, h2, h3, h4, h5⟩ := hT0; simp [h1, h2, h3, h4, h5]
  have e2 : (T != 64 && T != 127 && T != 126) = true := by obtain ⟨h1, h2, h3, h4, h5⟩ := hT0; simp [h1, h2, h3, h4, h5]
  rw [e1, e2] at hQ
  have HQ := Lib.hid hQ
  have HT := Lib.hid hT
  have HE1 := Lib.hid he1
  clear hT hQ hT0 e1 e2 he1
  have hq17 : ((B : Int) == 17) = false := beq_eq_false_iff_ne.2 (by omega)
  have HQE := Lib.hid hq
  have HI := Lib.hid hi
  have HS := Lib.hid hsm
  clear h17 hq hi hsm
  have X1 := Lib.hid (XE.new h)
  have HONE := Lib.hid (rf_one _ X1.out.rd hb)
  clear h hb
  go_enter Tryz.func90, Tryz.ntmps90
  go_upto_region 1 with fail
  obtain ⟨W1, hW1⟩ : ∃ W1, w.alloc (.cells #[.int .i64 0, .int .i64 0, .int .i64 0, .slice none 0 0] 33) = W1 := ⟨_, rfl⟩
  rw [hW1] at HONE X1 ⊢
  clear hW1
  go_wp2_with fail
  refine HONE.out.mono ?_
  rintro e w2 ⟨rfl, h2, k2⟩
  have X2 := Lib.hid (X1.out.step h2 k2)
  have a3 := h2.c3
  clear h2 k2
  rw [HQE.out] at a3
  go_wp2_with fail
  refine (rfloat_any (B : Int) w2).mono ?_
  rintro e w3 ⟨rfl, rfl⟩
  rw [hfl]
  go_wp2_with fail
  refine (rof_any (B : Int) w2 nm ps rs 1 true HI.out HS.out).mono ?_
  rintro e w5 ⟨rfl, c5⟩
  have X5 := Lib.hid (X2.out.later c5)
  clear c5 a3
  go_upto_region 9 with fail
  obtain ⟨W6, hW6⟩ : ∃ W6, w5.alloc (.cells #[.string nm, .int .i64 1, .string ps, .string rs] 121) = W6 := ⟨_, rfl⟩
  have B6 : Below w5.heap.size w5 W6 := by rw [← hW6]; exact (Below.refl _ _).alloc (Nat.le_refl _) _
  have i1 := cell_of_row W6 _ 1 _ _ _ (show W6.heap[w5.heap.size]? = some (.cells #[.string nm, .int .i64 1, .string ps, .string rs] 121 (0, 0)) by rw [← hW6]; exact heap_alloc_new _ _)
  have X6 := Lib.hid (X5.out.later B6)
  have z6 : w5.heap.size < W6.heap.size := by rw [← hW6]; simp
  have n6 : w.heap.size < w5.heap.size := X5.out.size
  rw [hW6]
  clear hW6 B6
  go_upto_region 13 with fail
  obtain ⟨W8, hW8⟩ : ∃ W8, W6.alloc (.cells #[.int .i64 (B : Int), .int .i64 0, .int .i64 0, .slice none 0 0] 33) = W8 := ⟨_, rfl⟩
  have B8 : Below W6.heap.size W6 W8 := by rw [← hW8]; exact (Below.refl _ _).alloc (Nat.le_refl _) _
  have X8 := Lib.hid (show XF w rb en W6.heap.size S #[.int .i64 (B : Int), .int .i64 0, .int .i64 0, .slice none 0 0] q W8 from ⟨X6.out.later B8, by rw [← hW8]; exact heap_alloc_new _ _, by omega⟩)
  replace i1 := cell_later B8 i1
  rw [hW8]
  clear hW8 B8 n6
  generalize W6.heap.size = xb at *
  go_wp2_with fail
  refine (rf_one _ X8.out.base.rd HT.out).mono ?_
  rintro e w9 ⟨rfl, h9, k9⟩
  have X9 := Lib.hid (X8.out.step h9 k9)
  have a3 := h9.c3
  clear h9 k9
  have hne : (q1.e == 0) = false := beq_eq_false_iff_ne.2 HE1.out
  have hne2 : (q1.e != 0) = true := bne_iff_ne.2 HE1.out
  go_wp2_with fail
  refine (rf_fails _ X9.out.base.rd 2).mono ?_
  rintro e w10 ⟨rfl, h10, k10⟩
  have X10 := Lib.hid (X9.out.step h10 k10)
  clear h10 k10
  have HQ2 := HQ.out
  rw [fail_ok] at HQ2
  rw [HQ2] at X10
  clear a3 hne hne2 HQ2
  have f1 := X10.out.fz 1
  have t1 := X10.out.cell 1 (.int .i64 0) rfl
  have X11 := Lib.hid (X10.out.set 1 (.int .i64 (T : Int)))
  obtain ⟨W11, hW11⟩ : ∃ W11, w10.setCell ⟨xb, 1, none⟩ (.int .i64 (T : Int)) = W11 := ⟨_, rfl⟩
  rw [hW11] at X11
  have HW11 := Lib.hid hW11
  clear hW11
  go_upto_region 39 with fail
  rw [HW11.out]
  clear f1 t1
  have b0 := X11.out.cell 0 (.int .i64 (B : Int)) rfl
  have b1 := X11.out.cell 1 (.int .i64 (T : Int)) rfl
  have b2 := X11.out.cell 2 (.int .i64 0) rfl
  have b3 := X11.out.cell 3 (.slice none 0 0) rfl
  have f0 := X11.out.base.fz 0
  have f1 := X11.out.base.fz 1
  have f2 := X11.out.base.fz 2
  have f3 := X11.out.base.fz 3
  have t0 := X11.out.base.cell 0 (.int .i64 0) rfl
  have t1 := X11.out.base.cell 1 (.int .i64 0) rfl
  have t2 := X11.out.base.cell 2 (.int .i64 0) rfl
  have t3 := X11.out.base.cell 3 (.slice none 0 0) rfl
  obtain ⟨W20, hW20⟩ : ∃ W20, (((W11.setCell ⟨w.heap.size, 0, none⟩ (.int .i64 (B : Int))).setCell ⟨w.heap.size, 1, none⟩ (.int .i64 (T : Int))).setCell ⟨w.heap.size, 2, none⟩ (.int .i64 0)).setCell ⟨w.heap.size, 3, none⟩ (.slice none 0 0) = W20 := ⟨_, rfl⟩
  have hput := xe_put X11.out.base _ _ _ _ hW20
  have HP := Lib.hid hput
  have HW20 := Lib.hid hW20
  have r0 : W20.cell? ⟨w.heap.size, 0, none⟩ = some (.int .i64 (B : Int)) := cell_of_row W20 _ 0 _ _ _ hput.1
  have r1 : W20.cell? ⟨w.heap.size, 1, none⟩ = some (.int .i64 (T : Int)) := cell_of_row W20 _ 1 _ _ _ hput.1
  have r2 : W20.cell? ⟨w.heap.size, 2, none⟩ = some (.int .i64 0) := cell_of_row W20 _ 2 _ _ _ hput.1
  have r3 : W20.cell? ⟨w.heap.size, 3, none⟩ = some (.slice none 0 0) := cell_of_row W20 _ 3 _ _ _ hput.1
  clear hW20 hput
  go_wp2_with fail
  rw [HW20.out]
  (try simp only [Exit.inBlock, Exit.then])
  refine bodyPost_ret (v := .agg #[.int .i64 (B : Int), .int .i64 (T : Int), .int .i64 0, .slice none 0 0]) (by simp [results, Tryz.results90, go_sem, r0, r1, r2, r3]) rfl ?_
  exact ⟨⟨(B : Int), (T : Int), 0, []⟩, _, rfl, own_nil _ _ _ _, Nat.zero_le _, fun _ => rfl, HP.out.2.1, HP.out.2.2.1⟩
end Go.Proofs.YteidhccnbfikcaaGreatDoor.Dec

/- DecRfD: What the document's own instr of chapter 6 reads where there are labels; instr whole. No condition beyond what each theorem names. -/
namespace Go.Proofs.YteidhccnbfikcaaGreatDoor.Dec
open Go.RowKit Go.Maps Go.Proofs.YteidhccnbfikcaaGreatDoor.Op Go.Proofs.YteidhccnbfikcaaGreatDoor.Mod Go.Proofs.YteidhccnbfikcaaGreatDoor.Leb Go.Proofs.YteidhccnbfikcaaGreatDoor.Enc
set_option linter.unusedVariables false
set_option linter.unusedSimpArgs false
variable {w w' W W' : World} {rb en xb : Nat} {S : ByteArray} {r r' : RS} {box : Array Value}
theorem XF.kept {F : Nat → Prop} (h : XF w rb en xb S box r W) (k : Keeps F W W') (hF : ∀ j, F j → xb < j) : XF w rb en xb S box r W' := by
  have hl := h.base.lt
  have hg := h.gt
  exact ⟨⟨h.base.rd.kept k (fun e => by have := hF _ e; omega), (k.block w.heap.size h.base.size (fun e => by have := hF _ e; omega)).trans h.base.row0, h.base.keep.trans k (fun i hi => .inr (by have := hF _ hi; omega)), hl⟩, (k.block xb (Array.getElem?_eq_some_iff.1 h.row).1 (fun e => by have := hF _ e; omega)).trans h.row, hg⟩
theorem rfail_zero {g : Bool} {c : Int} {r : RS} (hc : c ≠ 0) (h : (failP g c r).e = 0) : g = false ∧ r.e = 0 := by
  unfold failP at h
  split at h
  · exact absurd h hc
  · rename_i h1
    refine ⟨?_, h⟩
    cases g with
    | false => rfl
    | true => exact absurd ⟨rfl, h⟩ h1
theorem number_err {s : List UInt8} {q : RS} (h : q.e ≠ 0) : numberP s q = (0, q) := by unfold numberP readP; rw [if_neg h]
theorem cells_app (l : List Int) (z : Int) : cellsI (l ++ [z]) = cellsI l ++ [[.int .i64 z]] := by unfold cellsI; rw [List.map_append]; rfl
theorem cells_len (l : List Int) : (cellsI l).length = l.length := by unfold cellsI; rw [List.length_map]
set_option maxRecDepth 100000 in
set_option maxHeartbeats 4000000 in
theorem rfi_s3e (h : RfAt w rb S en r) {B : Nat} {q : RS} (hb : oneP (cutS S en) r = (B, q)) (hfl : floatB (B : Int) = false) (h17 : B ≠ 17) (nm ps rs : ByteArray) (hi : (opInfo (B : Int)).getD zeroI = ⟨nm, 3, ps, rs⟩) (hsm : (opInfo (B : Int)).isSome = true) (hq : q.e = 0) {N : Int} {p1 : RS} (hN : numberP (cutS S en) q = (N, p1)) (he : (failP (decide (4096 < N)) 5 p1).e ≠ 0) :
    Calls Tryz.prog 90 #[.pointer (some ⟨rb, 0, none⟩)] w (GotF w rb en S ⟨(B : Int), 0, 0, []⟩ (failP (decide (4096 < N)) 5 p1)) := by
  have HM := Lib.hid (show manyP (cutS S en) q = (0, failP (decide (4096 < N)) 5 p1) by unfold manyP; rw [hN]; dsimp only; rw [if_neg he])
  have HNE := Lib.hid (number_err (s := cutS S en) he)
  have HEE := Lib.hid he
  clear hN he
  obtain ⟨Q0, hQ0⟩ : ∃ Q0, failP (decide (4096 < N)) 5 p1 = Q0 := ⟨_, rfl⟩
  rw [hQ0] at HM HNE HEE ⊢
  clear hQ0
  have hq17 : ((B : Int) == 17) = false := beq_eq_false_iff_ne.2 (by omega)
  have HQE := Lib.hid hq
  have HI := Lib.hid hi
  have HS := Lib.hid hsm
  clear h17 hq hi hsm
  have X1 := Lib.hid (XE.new h)
  have HONE := Lib.hid (rf_one _ X1.out.rd hb)
  clear h hb
  go_enter Tryz.func90, Tryz.ntmps90
  go_upto_region 1 with fail
  obtain ⟨W1, hW1⟩ : ∃ W1, w.alloc (.cells #[.int .i64 0, .int .i64 0, .int .i64 0, .slice none 0 0] 33) = W1 := ⟨_, rfl⟩
  rw [hW1] at HONE X1 ⊢
  clear hW1
  go_wp2_with fail
  refine HONE.out.mono ?_
  rintro e w2 ⟨rfl, h2, k2⟩
  have X2 := Lib.hid (X1.out.step h2 k2)
  have a3 := h2.c3
  clear h2 k2
  rw [HQE.out] at a3
  go_wp2_with fail
  refine (rfloat_any (B : Int) w2).mono ?_
  rintro e w3 ⟨rfl, rfl⟩
  rw [hfl]
  go_wp2_with fail
  refine (rof_any (B : Int) w2 nm ps rs 3 true HI.out HS.out).mono ?_
  rintro e w5 ⟨rfl, c5⟩
  have X5 := Lib.hid (X2.out.later c5)
  clear c5 a3
  go_upto_region 9 with fail
  obtain ⟨W6, hW6⟩ : ∃ W6, w5.alloc (.cells #[.string nm, .int .i64 3, .string ps, .string rs] 121) = W6 := ⟨_, rfl⟩
  have B6 : Below w5.heap.size w5 W6 := by rw [← hW6]; exact (Below.refl _ _).alloc (Nat.le_refl _) _
  have i1 := cell_of_row W6 _ 1 _ _ _ (show W6.heap[w5.heap.size]? = some (.cells #[.string nm, .int .i64 3, .string ps, .string rs] 121 (0, 0)) by rw [← hW6]; exact heap_alloc_new _ _)
  have X6 := Lib.hid (X5.out.later B6)
  have z6 : w5.heap.size < W6.heap.size := by rw [← hW6]; simp
  have n6 : w.heap.size < w5.heap.size := X5.out.size
  rw [hW6]
  clear hW6 B6
  go_upto_region 13 with fail
  obtain ⟨W8, hW8⟩ : ∃ W8, W6.alloc (.cells #[.int .i64 (B : Int), .int .i64 0, .int .i64 0, .slice none 0 0] 33) = W8 := ⟨_, rfl⟩
  have B8 : Below W6.heap.size W6 W8 := by rw [← hW8]; exact (Below.refl _ _).alloc (Nat.le_refl _) _
  have X8 := Lib.hid (show XF w rb en W6.heap.size S #[.int .i64 (B : Int), .int .i64 0, .int .i64 0, .slice none 0 0] q W8 from ⟨X6.out.later B8, by rw [← hW8]; exact heap_alloc_new _ _, by omega⟩)
  replace i1 := cell_later B8 i1
  rw [hW8]
  clear hW8 B8 n6
  generalize W6.heap.size = xb at *
  go_wp2_with fail
  refine (rf_many _ X8.out.base.rd HM.out).mono ?_
  rintro e w9 ⟨rfl, h9, k9⟩
  have X9 := Lib.hid (X8.out.step h9 k9)
  clear h9 k9 i1
  go_wp2_with fail
  refine wp_loop_rounds 1 ?_
  rw [rounds_succ]
  go_wp2_with fail
  refine (rf_number _ X9.out.base.rd HNE.out).mono ?_
  rintro e w10 ⟨rfl, h10, k10⟩
  have X10 := Lib.hid (X9.out.step h10 k10)
  clear h10 k10
  have f1 := X10.out.fz 1
  have t1 := X10.out.cell 1 (.int .i64 0) rfl
  have X11 := Lib.hid (X10.out.set 1 (.int .i64 0))
  obtain ⟨W11, hW11⟩ : ∃ W11, w10.setCell ⟨xb, 1, none⟩ (.int .i64 0) = W11 := ⟨_, rfl⟩
  rw [hW11] at X11
  have HW11 := Lib.hid hW11
  clear hW11
  go_upto_region 39 with fail
  rw [HW11.out]
  clear f1 t1
  have b0 := X11.out.cell 0 (.int .i64 (B : Int)) rfl
  have b1 := X11.out.cell 1 (.int .i64 0) rfl
  have b2 := X11.out.cell 2 (.int .i64 0) rfl
  have b3 := X11.out.cell 3 (.slice none 0 0) rfl
  have f0 := X11.out.base.fz 0
  have f1 := X11.out.base.fz 1
  have f2 := X11.out.base.fz 2
  have f3 := X11.out.base.fz 3
  have t0 := X11.out.base.cell 0 (.int .i64 0) rfl
  have t1 := X11.out.base.cell 1 (.int .i64 0) rfl
  have t2 := X11.out.base.cell 2 (.int .i64 0) rfl
  have t3 := X11.out.base.cell 3 (.slice none 0 0) rfl
  obtain ⟨W20, hW20⟩ : ∃ W20, (((W11.setCell ⟨w.heap.size, 0, none⟩ (.int .i64 (B : Int))).setCell ⟨w.heap.size, 1, none⟩ (.int .i64 0)).setCell ⟨w.heap.size, 2, none⟩ (.int .i64 0)).setCell ⟨w.heap.size, 3, none⟩ (.slice none 0 0) = W20 := ⟨_, rfl⟩
  have hput := xe_put X11.out.base _ _ _ _ hW20
  have HP := Lib.hid hput
  have HW20 := Lib.hid hW20
  have r0 : W20.cell? ⟨w.heap.size, 0, none⟩ = some (.int .i64 (B : Int)) := cell_of_row W20 _ 0 _ _ _ hput.1
  have r1 : W20.cell? ⟨w.heap.size, 1, none⟩ = some (.int .i64 0) := cell_of_row W20 _ 1 _ _ _ hput.1
  have r2 : W20.cell? ⟨w.heap.size, 2, none⟩ = some (.int .i64 0) := cell_of_row W20 _ 2 _ _ _ hput.1
  have r3 : W20.cell? ⟨w.heap.size, 3, none⟩ = some (.slice none 0 0) := cell_of_row W20 _ 3 _ _ _ hput.1
  clear hW20 hput
  go_wp2_with fail
  rw [HW20.out]
  (try simp only [Exit.inBlock, Exit.then])
  refine bodyPost_ret (v := .agg #[.int .i64 (B : Int), .int .i64 0, .int .i64 0, .slice none 0 0]) (by simp [results, Tryz.results90, go_sem, r0, r1, r2, r3]) rfl ?_
  exact ⟨⟨(B : Int), 0, 0, []⟩, _, rfl, own_nil _ _ _ _, Nat.zero_le _, fun _ => rfl, HP.out.2.1, HP.out.2.2.1⟩
set_option maxRecDepth 100000 in
set_option maxHeartbeats 4000000 in
theorem rfi_s3 (h : RfAt w rb S en r) {B : Nat} {q : RS} (hb : oneP (cutS S en) r = (B, q)) (hfl : floatB (B : Int) = false) (h17 : B ≠ 17) (nm ps rs : ByteArray) (hi : (opInfo (B : Int)).getD zeroI = ⟨nm, 3, ps, rs⟩) (hsm : (opInfo (B : Int)).isSome = true) (hq : q.e = 0) {M : Nat} {p1 q1 Q : RS} {zs : List Int} {n : Int} (hN : numberP (cutS S en) q = ((M : Int), p1)) (hM : M ≤ 4096) (he : p1.e = 0) (hL : loopP numberP (cutS S en) M [] p1 = (zs, q1)) (hn : numberP (cutS S en) q1 = (n, Q)) :
    Calls Tryz.prog 90 #[.pointer (some ⟨rb, 0, none⟩)] w (GotF w rb en S ⟨(B : Int), n, 0, zs⟩ Q) := by
  have HM := Lib.hid (show manyP (cutS S en) q = ((M : Int), p1) by unfold manyP; rw [hN]; dsimp only; rw [decide_eq_false (by omega), fail_ok, if_pos he])
  have HML := Lib.hid hM
  have HL := Lib.hid hL
  have HN2 := Lib.hid hn
  clear hN hM hL hn he
  have hq17 : ((B : Int) == 17) = false := beq_eq_false_iff_ne.2 (by omega)
  have HQE := Lib.hid hq
  have HI := Lib.hid hi
  have HS := Lib.hid hsm
  clear h17 hq hi hsm
  have X1 := Lib.hid (XE.new h)
  have HONE := Lib.hid (rf_one _ X1.out.rd hb)
  clear h hb
  go_enter Tryz.func90, Tryz.ntmps90
  go_upto_region 1 with fail
  obtain ⟨W1, hW1⟩ : ∃ W1, w.alloc (.cells #[.int .i64 0, .int .i64 0, .int .i64 0, .slice none 0 0] 33) = W1 := ⟨_, rfl⟩
  rw [hW1] at HONE X1 ⊢
  clear hW1
  go_wp2_with fail
  refine HONE.out.mono ?_
  rintro e w2 ⟨rfl, h2, k2⟩
  have X2 := Lib.hid (X1.out.step h2 k2)
  have a3 := h2.c3
  clear h2 k2
  rw [HQE.out] at a3
  go_wp2_with fail
  refine (rfloat_any (B : Int) w2).mono ?_
  rintro e w3 ⟨rfl, rfl⟩
  rw [hfl]
  go_wp2_with fail
  refine (rof_any (B : Int) w2 nm ps rs 3 true HI.out HS.out).mono ?_
  rintro e w5 ⟨rfl, c5⟩
  have X5 := Lib.hid (X2.out.later c5)
  clear c5 a3
  go_upto_region 9 with fail
  obtain ⟨W6, hW6⟩ : ∃ W6, w5.alloc (.cells #[.string nm, .int .i64 3, .string ps, .string rs] 121) = W6 := ⟨_, rfl⟩
  have B6 : Below w5.heap.size w5 W6 := by rw [← hW6]; exact (Below.refl _ _).alloc (Nat.le_refl _) _
  have i1 := cell_of_row W6 _ 1 _ _ _ (show W6.heap[w5.heap.size]? = some (.cells #[.string nm, .int .i64 3, .string ps, .string rs] 121 (0, 0)) by rw [← hW6]; exact heap_alloc_new _ _)
  have X6 := Lib.hid (X5.out.later B6)
  have z6 : w5.heap.size < W6.heap.size := by rw [← hW6]; simp
  have n6 : w.heap.size < w5.heap.size := X5.out.size
  rw [hW6]
  clear hW6 B6
  go_upto_region 13 with fail
  obtain ⟨W8, hW8⟩ : ∃ W8, W6.alloc (.cells #[.int .i64 (B : Int), .int .i64 0, .int .i64 0, .slice none 0 0] 33) = W8 := ⟨_, rfl⟩
  have B8 : Below W6.heap.size W6 W8 := by rw [← hW8]; exact (Below.refl _ _).alloc (Nat.le_refl _) _
  have X8 := Lib.hid (show XF w rb en W6.heap.size S #[.int .i64 (B : Int), .int .i64 0, .int .i64 0, .slice none 0 0] q W8 from ⟨X6.out.later B8, by rw [← hW8]; exact heap_alloc_new _ _, by omega⟩)
  replace i1 := cell_later B8 i1
  rw [hW8]
  clear hW8 B8 n6
  generalize W6.heap.size = xb at *
  go_wp2_with fail
  refine (rf_many _ X8.out.base.rd HM.out).mono ?_
  rintro e w9 ⟨rfl, h9, k9⟩
  have X9 := Lib.hid (X8.out.step h9 k9)
  have HB9 := Lib.hid (show xb < w9.heap.size from (Array.getElem?_eq_some_iff.1 X9.out.row).1)
  clear h9 k9 i1
  go_wp2_with fail
  go_loopg [10] M (fun gk s10 wr => ∃ (k : Nat) (out : List Int) (rr : RS) (va : Option Addr) (vc : Nat), s10 = .int .i64 (k : Int) ∧ k ≤ M ∧ M - k ≤ gk ∧ out.length = k ∧ Hid (XF w rb en xb S #[.int .i64 (B : Int), .int .i64 0, .int .i64 0, .slice va k vc] rr wr) ∧ Hid (OwnAt wr w9.heap.size 3 1 (.slice va k vc) (cellsI out)) ∧ Hid (loopP numberP (cutS S en) (M - k) out rr = (zs, q1)) ∧ Hid (w9.heap.size ≤ wr.heap.size))
  case atStart => exact ⟨0, [], _, none, 0, rfl, Nat.zero_le _, by omega, rfl, X9, Lib.hid (own_nil _ _ _ _), HL, Lib.hid (Nat.le_refl _)⟩
  case round =>
    obtain ⟨k, out, rr, va, vc, rfl, hk, hgk, hol, HX, HO, HLP, HSZ⟩ := hrel
    have a3 := HX.out.base.rd.c3
    by_cases hlt : k < M
    · have hltz : (k : Int) < (M : Int) := by omega
      by_cases he : rr.e = 0
      · obtain ⟨z, rn, hz⟩ : ∃ z rn, numberP (cutS S en) rr = (z, rn) := ⟨_, _, rfl⟩
        have HZ := Lib.hid hz
        have HST := Lib.hid (show loopP numberP (cutS S en) (M - (k + 1)) (out ++ [z]) rn = (zs, q1) by
          rw [← HLP.out, show M - k = (M - (k + 1)) + 1 by omega, loopP, if_pos he, hz])
        have HKM := Lib.hid hlt
        have HGK := Lib.hid hgk
        have HOL := Lib.hid hol
        have hwk : wrap64 ((k : Int) + 1) = (k : Int) + 1 := by have := HML.out; unfold wrap64; omega
        have HWK := Lib.hid hwk
        rw [he] at a3
        clear he hz hlt hgk hol hk HLP
        go_upto_region 29 with fail
        clear a3 hltz
        refine wp_region_held_drew (S := fun _ => True) (by kernel_rfl) trivial (fun hHeld => ?_)
        obtain ⟨V0, hV0⟩ : ∃ V, wr.drew = V := ⟨_, rfl⟩
        replace HX := Lib.hid (HX.out.later (Below.refl _ _).drew)
        replace HO := Lib.hid (HO.out.later (Below.refl _ _).drew)
        have HB0 := Lib.hid (show w9.heap.size ≤ wr.drew.heap.size from HSZ.out)
        rw [hV0] at HX HO HB0 ⊢
        clear hV0
        refine ty 0 (some 101) (h := ?_)
        try simp only [zpA, zpB, zpC, zpD, zpE]
        refine ty 2 (some 103) (h := ?_)
        try simp only [zpA, zpB, zpC, zpD, zpE]
        refine wpAnyH_ready (rs := [1, 3]) (by kernel_rfl) (by simp) ?_
        refine (AllReadyH.cons (o := _) rfl (fun K hK => ?_) (AllReadyH.cons (o := _) rfl (fun K hK => ?_) AllReadyH.nil))
        · skip
          have p3 := HX.out.cell 3 (.slice va k vc) rfl
          go_simp
          refine hK.out _ _ trivial (fun hHeld => ?_)
          clear p3
          clear hK K
          try simp only [zpA, zpB, zpC, zpD, zpE]
          refine wpAnyH_ready (rs := [3]) (by kernel_rfl) (by simp) ?_
          refine (AllReadyH.cons (o := _) rfl (fun K hK => ?_) AllReadyH.nil)
          go_simp
          go_at_call 84
          refine (rf_number _ HX.out.base.rd HZ.out).mono ?_
          rintro en6 V1 ⟨rfl, h6, k6⟩
          have hX2 := HX.out.step h6 k6
          have hO2 := own_kept HO.out k6 (fun j hj hn => by have h1 := (HO.out.1.lt j hj).1; have h2 := HB9.out; have h3 := HX.out.gt; have h4 := HX.out.base.lt; omega)
          replace HB0 := Lib.hid (Nat.le_trans HB0.out k6.size)
          clear HX HO
          have HX := Lib.hid hX2
          have HO := Lib.hid hO2
          clear h6 k6 hX2 hO2
          go_wp2_with fail
          refine hK.out _ _ trivial (fun hHeld => ?_)
          clear hK K
          try simp only [zpA, zpB, zpC, zpD, zpE]
          refine wpAnyH_ready (rs := [4]) (by kernel_rfl) (by simp) ?_
          refine (AllReadyH.cons (o := _) rfl (fun K hK => ?_) AllReadyH.nil)
          go_simp
          have b8 : Below V1.heap.size V1 (V1.alloc (.cells #[.int .i64 z] 3)) := (Below.refl _ _).alloc (Nat.le_refl _) _
          have r9 : RowAt (V1.alloc (.cells #[.int .i64 z] 3)) 1 (.slice (some ⟨V1.heap.size, 0, none⟩) 1 1) [[.int .i64 z]] := row_new V1 3 [.int .i64 z]
          replace HX := Lib.hid (HX.out.later b8)
          replace HO := Lib.hid (HO.out.later b8)
          replace HB0 := Lib.hid (Nat.le_trans HB0.out b8.size)
          generalize hg9 : V1.heap.size = g9 at r9 ⊢
          obtain ⟨V2, hV9⟩ : ∃ V, V1.alloc (.cells #[.int .i64 z] 3) = V := ⟨_, rfl⟩
          rw [hV9] at r9 HX HO HB0 ⊢
          have HRW := Lib.hid r9
          clear b8 r9 hg9 hV9
          refine hK.out _ _ trivial (fun hHeld => ?_)
          clear hK K
          try simp only [zpA, zpB, zpC, zpD, zpE]
          refine wpAnyH_ready (rs := [5]) (by kernel_rfl) (by simp) ?_
          refine (AllReadyH.cons (o := _) rfl (fun K hK => ?_) AllReadyH.nil)
          have ho0 := HO.out
          have ho1 := HO.out
          rw [show k = (cellsI out).length by rw [cells_len, HOL.out]] at ho1
          refine step_app ty_int (rows := cellsI out) (rows2 := [[.int .i64 z]]) rfl _ _ rfl rfl (by rw [show k = (cellsI out).length by rw [cells_len, HOL.out]]; exact ho1) rfl HRW.out (fun r hr u hu => by rw [List.mem_singleton.1 hr] at hu; rw [List.mem_singleton.1 hu]; rfl) (by rw [cells_len, HOL.out]; have h1 := HKM.out; have h2 := HML.out; exact ⟨by simp only [List.length_cons, List.length_nil]; omega, by decide⟩) HB0.out ?_
          intro a5 c5 V3 o5 k5 n5
          rw [show (cellsI out).length + ([[.int .i64 z]] : List (List Value)).length = k + 1 by rw [cells_len, HOL.out]; rfl] at o5 n5 ⊢
          rw [← cells_app] at o5
          have hX2 := HX.out.kept k5 (fun j hj => by have h1 := (ho0.1.lt j hj).1; have h2 := HB9.out; omega)
          replace HB0 := Lib.hid (Nat.le_trans HB0.out k5.size)
          clear HX HO
          have HX := Lib.hid hX2
          have HO5 := Lib.hid o5
          clear o5 k5 n5 ho0 ho1 hX2 HRW
          refine hK.out _ _ trivial (fun hHeld => ?_)
          clear hK K
          try simp only [zpA, zpB, zpC, zpD, zpE]
          refine ty 6 (some 107) (h := ?_)
          try simp only [zpA, zpB, zpC, zpD, zpE]
          refine wpAnyH_ready (rs := [7]) (by kernel_rfl) (by simp) ?_
          refine (AllReadyH.cons (o := _) rfl (fun K hK => ?_) AllReadyH.nil)
          have p3 := HX.out.cell 3 (.slice va k vc) rfl
          have f3 := HX.out.fz 3
          have hX2 := HX.out.set 3 (.slice a5 (k + 1) c5)
          obtain ⟨V9, hV9⟩ : ∃ V, V3.setCell ⟨xb, 3, none⟩ (.slice a5 (k + 1) c5) = V := ⟨_, rfl⟩
          rw [hV9] at hX2
          have HX9 := Lib.hid hX2
          have HO9 := Lib.hid (show OwnAt V9 w9.heap.size 3 1 (.slice a5 (k + 1) c5) (cellsI (out ++ [z])) by rw [← hV9]; exact own_kept HO5.out (Keeps.setCell (F := fun j => j = xb) _ _ _ rfl) (fun j hj hn => by have h1 := (HO5.out.1.lt j hj).1; have h2 := HB9.out; omega))
          have HB9b := Lib.hid (show w9.heap.size ≤ V9.heap.size by rw [← hV9]; exact Nat.le_trans HB0.out (Keeps.setCell (F := fun j => j = xb) _ _ _ rfl).size)
          go_simp
          try rw [hV9]
          refine hK.out _ _ trivial (fun hHeld => ?_)
          clear p3 f3 hX2 hV9
          clear hK K
          try simp only [zpA, zpB, zpC, zpD, zpE]
          refine wpAnyH_done (by kernel_rfl) ?_ _
          go_wp2_with fail
          go_roundg (M - (k + 1))
          case measure => have := HKM.out; have := HGK.out; omega
          case rel => exact ⟨k + 1, out ++ [z], rn, a5, c5, by first | rfl | rw [HWK.out]; rfl, HKM.out, Nat.le_refl _, by rw [List.length_append, HOL.out]; rfl, HX9, HO9, HST, HB9b⟩
        · skip
          go_simp
          go_at_call 84
          refine (rf_number _ HX.out.base.rd HZ.out).mono ?_
          rintro en6 V4 ⟨rfl, h6, k6⟩
          have hX2 := HX.out.step h6 k6
          have hO2 := own_kept HO.out k6 (fun j hj hn => by have h1 := (HO.out.1.lt j hj).1; have h2 := HB9.out; have h3 := HX.out.gt; have h4 := HX.out.base.lt; omega)
          replace HB0 := Lib.hid (Nat.le_trans HB0.out k6.size)
          clear HX HO
          have HX := Lib.hid hX2
          have HO := Lib.hid hO2
          clear h6 k6 hX2 hO2
          go_wp2_with fail
          refine hK.out _ _ trivial (fun hHeld => ?_)
          clear hK K
          try simp only [zpA, zpB, zpC, zpD, zpE]
          refine wpAnyH_ready (rs := [1, 4]) (by kernel_rfl) (by simp) ?_
          refine (AllReadyH.cons (o := _) rfl (fun K hK => ?_) (AllReadyH.cons (o := _) rfl (fun K hK => ?_) AllReadyH.nil))
          · skip
            have p3 := HX.out.cell 3 (.slice va k vc) rfl
            go_simp
            refine hK.out _ _ trivial (fun hHeld => ?_)
            clear p3
            clear hK K
            try simp only [zpA, zpB, zpC, zpD, zpE]
            refine wpAnyH_ready (rs := [4]) (by kernel_rfl) (by simp) ?_
            refine (AllReadyH.cons (o := _) rfl (fun K hK => ?_) AllReadyH.nil)
            go_simp
            have b8 : Below V4.heap.size V4 (V4.alloc (.cells #[.int .i64 z] 3)) := (Below.refl _ _).alloc (Nat.le_refl _) _
            have r9 : RowAt (V4.alloc (.cells #[.int .i64 z] 3)) 1 (.slice (some ⟨V4.heap.size, 0, none⟩) 1 1) [[.int .i64 z]] := row_new V4 3 [.int .i64 z]
            replace HX := Lib.hid (HX.out.later b8)
            replace HO := Lib.hid (HO.out.later b8)
            replace HB0 := Lib.hid (Nat.le_trans HB0.out b8.size)
            generalize hg9 : V4.heap.size = g9 at r9 ⊢
            obtain ⟨V5, hV9⟩ : ∃ V, V4.alloc (.cells #[.int .i64 z] 3) = V := ⟨_, rfl⟩
            rw [hV9] at r9 HX HO HB0 ⊢
            have HRW := Lib.hid r9
            clear b8 r9 hg9 hV9
            refine hK.out _ _ trivial (fun hHeld => ?_)
            clear hK K
            try simp only [zpA, zpB, zpC, zpD, zpE]
            refine wpAnyH_ready (rs := [5]) (by kernel_rfl) (by simp) ?_
            refine (AllReadyH.cons (o := _) rfl (fun K hK => ?_) AllReadyH.nil)
            have ho0 := HO.out
            have ho1 := HO.out
            rw [show k = (cellsI out).length by rw [cells_len, HOL.out]] at ho1
            refine step_app ty_int (rows := cellsI out) (rows2 := [[.int .i64 z]]) rfl _ _ rfl rfl (by rw [show k = (cellsI out).length by rw [cells_len, HOL.out]]; exact ho1) rfl HRW.out (fun r hr u hu => by rw [List.mem_singleton.1 hr] at hu; rw [List.mem_singleton.1 hu]; rfl) (by rw [cells_len, HOL.out]; have h1 := HKM.out; have h2 := HML.out; exact ⟨by simp only [List.length_cons, List.length_nil]; omega, by decide⟩) HB0.out ?_
            intro a5 c5 V6 o5 k5 n5
            rw [show (cellsI out).length + ([[.int .i64 z]] : List (List Value)).length = k + 1 by rw [cells_len, HOL.out]; rfl] at o5 n5 ⊢
            rw [← cells_app] at o5
            have hX2 := HX.out.kept k5 (fun j hj => by have h1 := (ho0.1.lt j hj).1; have h2 := HB9.out; omega)
            replace HB0 := Lib.hid (Nat.le_trans HB0.out k5.size)
            clear HX HO
            have HX := Lib.hid hX2
            have HO5 := Lib.hid o5
            clear o5 k5 n5 ho0 ho1 hX2 HRW
            refine hK.out _ _ trivial (fun hHeld => ?_)
            clear hK K
            try simp only [zpA, zpB, zpC, zpD, zpE]
            refine ty 6 (some 107) (h := ?_)
            try simp only [zpA, zpB, zpC, zpD, zpE]
            refine wpAnyH_ready (rs := [7]) (by kernel_rfl) (by simp) ?_
            refine (AllReadyH.cons (o := _) rfl (fun K hK => ?_) AllReadyH.nil)
            have p3 := HX.out.cell 3 (.slice va k vc) rfl
            have f3 := HX.out.fz 3
            have hX2 := HX.out.set 3 (.slice a5 (k + 1) c5)
            obtain ⟨V9, hV9⟩ : ∃ V, V6.setCell ⟨xb, 3, none⟩ (.slice a5 (k + 1) c5) = V := ⟨_, rfl⟩
            rw [hV9] at hX2
            have HX9 := Lib.hid hX2
            have HO9 := Lib.hid (show OwnAt V9 w9.heap.size 3 1 (.slice a5 (k + 1) c5) (cellsI (out ++ [z])) by rw [← hV9]; exact own_kept HO5.out (Keeps.setCell (F := fun j => j = xb) _ _ _ rfl) (fun j hj hn => by have h1 := (HO5.out.1.lt j hj).1; have h2 := HB9.out; omega))
            have HB9b := Lib.hid (show w9.heap.size ≤ V9.heap.size by rw [← hV9]; exact Nat.le_trans HB0.out (Keeps.setCell (F := fun j => j = xb) _ _ _ rfl).size)
            go_simp
            try rw [hV9]
            refine hK.out _ _ trivial (fun hHeld => ?_)
            clear p3 f3 hX2 hV9
            clear hK K
            try simp only [zpA, zpB, zpC, zpD, zpE]
            refine wpAnyH_done (by kernel_rfl) ?_ _
            go_wp2_with fail
            go_roundg (M - (k + 1))
            case measure => have := HKM.out; have := HGK.out; omega
            case rel => exact ⟨k + 1, out ++ [z], rn, a5, c5, by first | rfl | rw [HWK.out]; rfl, HKM.out, Nat.le_refl _, by rw [List.length_append, HOL.out]; rfl, HX9, HO9, HST, HB9b⟩
          · skip
            go_simp
            have b8 : Below V4.heap.size V4 (V4.alloc (.cells #[.int .i64 z] 3)) := (Below.refl _ _).alloc (Nat.le_refl _) _
            have r9 : RowAt (V4.alloc (.cells #[.int .i64 z] 3)) 1 (.slice (some ⟨V4.heap.size, 0, none⟩) 1 1) [[.int .i64 z]] := row_new V4 3 [.int .i64 z]
            replace HX := Lib.hid (HX.out.later b8)
            replace HO := Lib.hid (HO.out.later b8)
            replace HB0 := Lib.hid (Nat.le_trans HB0.out b8.size)
            generalize hg9 : V4.heap.size = g9 at r9 ⊢
            obtain ⟨V7, hV9⟩ : ∃ V, V4.alloc (.cells #[.int .i64 z] 3) = V := ⟨_, rfl⟩
            rw [hV9] at r9 HX HO HB0 ⊢
            have HRW := Lib.hid r9
            clear b8 r9 hg9 hV9
            refine hK.out _ _ trivial (fun hHeld => ?_)
            clear hK K
            try simp only [zpA, zpB, zpC, zpD, zpE]
            refine wpAnyH_ready (rs := [1]) (by kernel_rfl) (by simp) ?_
            refine (AllReadyH.cons (o := _) rfl (fun K hK => ?_) AllReadyH.nil)
            have p3 := HX.out.cell 3 (.slice va k vc) rfl
            go_simp
            refine hK.out _ _ trivial (fun hHeld => ?_)
            clear p3
            clear hK K
            try simp only [zpA, zpB, zpC, zpD, zpE]
            refine wpAnyH_ready (rs := [5]) (by kernel_rfl) (by simp) ?_
            refine (AllReadyH.cons (o := _) rfl (fun K hK => ?_) AllReadyH.nil)
            have ho0 := HO.out
            have ho1 := HO.out
            rw [show k = (cellsI out).length by rw [cells_len, HOL.out]] at ho1
            refine step_app ty_int (rows := cellsI out) (rows2 := [[.int .i64 z]]) rfl _ _ rfl rfl (by rw [show k = (cellsI out).length by rw [cells_len, HOL.out]]; exact ho1) rfl HRW.out (fun r hr u hu => by rw [List.mem_singleton.1 hr] at hu; rw [List.mem_singleton.1 hu]; rfl) (by rw [cells_len, HOL.out]; have h1 := HKM.out; have h2 := HML.out; exact ⟨by simp only [List.length_cons, List.length_nil]; omega, by decide⟩) HB0.out ?_
            intro a5 c5 V8 o5 k5 n5
            rw [show (cellsI out).length + ([[.int .i64 z]] : List (List Value)).length = k + 1 by rw [cells_len, HOL.out]; rfl] at o5 n5 ⊢
            rw [← cells_app] at o5
            have hX2 := HX.out.kept k5 (fun j hj => by have h1 := (ho0.1.lt j hj).1; have h2 := HB9.out; omega)
            replace HB0 := Lib.hid (Nat.le_trans HB0.out k5.size)
            clear HX HO
            have HX := Lib.hid hX2
            have HO5 := Lib.hid o5
            clear o5 k5 n5 ho0 ho1 hX2 HRW
            refine hK.out _ _ trivial (fun hHeld => ?_)
            clear hK K
            try simp only [zpA, zpB, zpC, zpD, zpE]
            refine ty 6 (some 107) (h := ?_)
            try simp only [zpA, zpB, zpC, zpD, zpE]
            refine wpAnyH_ready (rs := [7]) (by kernel_rfl) (by simp) ?_
            refine (AllReadyH.cons (o := _) rfl (fun K hK => ?_) AllReadyH.nil)
            have p3 := HX.out.cell 3 (.slice va k vc) rfl
            have f3 := HX.out.fz 3
            have hX2 := HX.out.set 3 (.slice a5 (k + 1) c5)
            obtain ⟨V9, hV9⟩ : ∃ V, V8.setCell ⟨xb, 3, none⟩ (.slice a5 (k + 1) c5) = V := ⟨_, rfl⟩
            rw [hV9] at hX2
            have HX9 := Lib.hid hX2
            have HO9 := Lib.hid (show OwnAt V9 w9.heap.size 3 1 (.slice a5 (k + 1) c5) (cellsI (out ++ [z])) by rw [← hV9]; exact own_kept HO5.out (Keeps.setCell (F := fun j => j = xb) _ _ _ rfl) (fun j hj hn => by have h1 := (HO5.out.1.lt j hj).1; have h2 := HB9.out; omega))
            have HB9b := Lib.hid (show w9.heap.size ≤ V9.heap.size by rw [← hV9]; exact Nat.le_trans HB0.out (Keeps.setCell (F := fun j => j = xb) _ _ _ rfl).size)
            go_simp
            try rw [hV9]
            refine hK.out _ _ trivial (fun hHeld => ?_)
            clear p3 f3 hX2 hV9
            clear hK K
            try simp only [zpA, zpB, zpC, zpD, zpE]
            refine wpAnyH_done (by kernel_rfl) ?_ _
            go_wp2_with fail
            go_roundg (M - (k + 1))
            case measure => have := HKM.out; have := HGK.out; omega
            case rel => exact ⟨k + 1, out ++ [z], rn, a5, c5, by first | rfl | rw [HWK.out]; rfl, HKM.out, Nat.le_refl _, by rw [List.length_append, HOL.out]; rfl, HX9, HO9, HST, HB9b⟩
      · have hne : (rr.e == 0) = false := beq_eq_false_iff_ne.2 he
        have HE := Lib.hid he
        have HNE := Lib.hid (number_err (s := cutS S en) he)
        have HRES := Lib.hid (show (zs, q1) = ([], rr) by rw [← HLP.out, show M - k = (M - (k + 1)) + 1 by omega, loopP, if_neg he])
        have HQ0 := Lib.hid (show (n, Q) = (0, rr) by
          have h1 := HN2.out
          rw [(Prod.mk.inj HRES.out).2, HNE.out] at h1
          exact h1.symm)
        obtain ⟨rfl, rfl⟩ := Prod.mk.inj HQ0.out
        have HOL := Lib.hid (show out.length ≤ 4096 by have := HML.out; omega)
        have HOK := Lib.hid (show k = out.length from hol.symm)
        clear he hlt hgk hol hk HLP
        go_wp2_with fail
        refine (rf_number _ HX.out.base.rd HNE.out).mono ?_
        rintro e w11 ⟨rfl, h11, k11⟩
        have X11 := Lib.hid (HX.out.step h11 k11)
        have O11 := Lib.hid (own_kept HO.out k11 (fun j hj hn => by have h1 := (HO.out.1.lt j hj).1; have h2 := HB9.out; have h3 := HX.out.gt; have h4 := HX.out.base.lt; omega))
        clear h11 k11 a3
        have f1 := X11.out.fz 1
        have t1 := X11.out.cell 1 (.int .i64 0) rfl
        have X12 := Lib.hid (X11.out.set 1 (.int .i64 0))
        obtain ⟨W12, hW12⟩ : ∃ W12, w11.setCell ⟨xb, 1, none⟩ (.int .i64 0) = W12 := ⟨_, rfl⟩
        have O12 := Lib.hid (show OwnAt W12 w9.heap.size 3 1 (.slice va k vc) (cellsI out) by rw [← hW12]; exact own_kept O11.out (Keeps.setCell (F := fun j => j = xb) _ _ _ rfl) (fun j hj hn => by have h1 := (O11.out.1.lt j hj).1; have h2 := HB9.out; omega))
        rw [hW12] at X12
        have HW12 := Lib.hid hW12
        clear hW12
        go_upto_region 39 with fail
        rw [HW12.out]
        clear f1 t1
        have b0 := X12.out.cell 0 (.int .i64 (B : Int)) rfl
        have b1 := X12.out.cell 1 (.int .i64 0) rfl
        have b2 := X12.out.cell 2 (.int .i64 0) rfl
        have b3 := X12.out.cell 3 (.slice va k vc) rfl
        have f0 := X12.out.base.fz 0
        have f1 := X12.out.base.fz 1
        have f2 := X12.out.base.fz 2
        have f3 := X12.out.base.fz 3
        have t0 := X12.out.base.cell 0 (.int .i64 0) rfl
        have t1 := X12.out.base.cell 1 (.int .i64 0) rfl
        have t2 := X12.out.base.cell 2 (.int .i64 0) rfl
        have t3 := X12.out.base.cell 3 (.slice none 0 0) rfl
        obtain ⟨W20, hW20⟩ : ∃ W20, (((W12.setCell ⟨w.heap.size, 0, none⟩ (.int .i64 (B : Int))).setCell ⟨w.heap.size, 1, none⟩ (.int .i64 0)).setCell ⟨w.heap.size, 2, none⟩ (.int .i64 0)).setCell ⟨w.heap.size, 3, none⟩ (.slice va k vc) = W20 := ⟨_, rfl⟩
        have hput := xe_put X12.out.base _ _ _ _ hW20
        have HP := Lib.hid hput
        have HW20 := Lib.hid hW20
        have r0 : W20.cell? ⟨w.heap.size, 0, none⟩ = some (.int .i64 (B : Int)) := cell_of_row W20 _ 0 _ _ _ hput.1
        have r1 : W20.cell? ⟨w.heap.size, 1, none⟩ = some (.int .i64 0) := cell_of_row W20 _ 1 _ _ _ hput.1
        have r2 : W20.cell? ⟨w.heap.size, 2, none⟩ = some (.int .i64 0) := cell_of_row W20 _ 2 _ _ _ hput.1
        have r3 : W20.cell? ⟨w.heap.size, 3, none⟩ = some (.slice va k vc) := cell_of_row W20 _ 3 _ _ _ hput.1
        have OWE := Lib.hid (show OwnAt W20 w.heap.size 3 1 (.slice va k vc) (cellsI out) from (fun (h9 : OwnAt W20 w9.heap.size 3 1 (.slice va k vc) (cellsI out)) => ⟨ownsRow_base h9.1 (by have h1 := HB9.out; have h2 := X12.out.gt; omega), h9.2⟩) (own_kept O12.out hput.2.2.2 (fun j hj hn => by have h1 := (O12.out.1.lt j hj).1; have h2 := HB9.out; have h3 := X12.out.gt; omega)))
        clear hW20 hput
        go_wp2_with fail
        rw [HW20.out]
        (try simp only [Exit.inBlock, Exit.then])
        refine bodyPost_ret (v := .agg #[.int .i64 (B : Int), .int .i64 0, .int .i64 0, .slice va k vc]) (by simp [results, Tryz.results90, go_sem, r0, r1, r2, r3]) rfl ?_
        exact ⟨⟨(B : Int), 0, 0, out⟩, _, rfl, OWE.out, HOL.out, fun h0 => absurd h0 HE.out, HP.out.2.1, HP.out.2.2.1⟩
    · obtain rfl : k = M := by omega
      have hltz : ¬ ((k : Nat) : Int) < (k : Int) := by omega
      have HRES := Lib.hid (show (zs, q1) = (out, rr) by rw [← HLP.out, Nat.sub_self, loopP])
      have HNN := Lib.hid (show numberP (cutS S en) rr = (n, Q) by rw [← (Prod.mk.inj HRES.out).2]; exact HN2.out)
      have HOL := Lib.hid (show out.length ≤ 4096 by have := HML.out; omega)
      clear hlt hgk hol hk HLP
      go_wp2_with fail
      refine (rf_number _ HX.out.base.rd HNN.out).mono ?_
      rintro e w11 ⟨rfl, h11, k11⟩
      have X11 := Lib.hid (HX.out.step h11 k11)
      have O11 := Lib.hid (own_kept HO.out k11 (fun j hj hn => by have h1 := (HO.out.1.lt j hj).1; have h2 := HB9.out; have h3 := HX.out.gt; have h4 := HX.out.base.lt; omega))
      clear h11 k11 a3
      have f1 := X11.out.fz 1
      have t1 := X11.out.cell 1 (.int .i64 0) rfl
      have X12 := Lib.hid (X11.out.set 1 (.int .i64 n))
      obtain ⟨W12, hW12⟩ : ∃ W12, w11.setCell ⟨xb, 1, none⟩ (.int .i64 n) = W12 := ⟨_, rfl⟩
      have O12 := Lib.hid (show OwnAt W12 w9.heap.size 3 1 (.slice va k vc) (cellsI out) by rw [← hW12]; exact own_kept O11.out (Keeps.setCell (F := fun j => j = xb) _ _ _ rfl) (fun j hj hn => by have h1 := (O11.out.1.lt j hj).1; have h2 := HB9.out; omega))
      rw [hW12] at X12
      have HW12 := Lib.hid hW12
      clear hW12
      go_upto_region 39 with fail
      rw [HW12.out]
      clear f1 t1
      have b0 := X12.out.cell 0 (.int .i64 (B : Int)) rfl
      have b1 := X12.out.cell 1 (.int .i64 n) rfl
      have b2 := X12.out.cell 2 (.int .i64 0) rfl
      have b3 := X12.out.cell 3 (.slice va k vc) rfl
      have f0 := X12.out.base.fz 0
      have f1 := X12.out.base.fz 1
      have f2 := X12.out.base.fz 2
      have f3 := X12.out.base.fz 3
      have t0 := X12.out.base.cell 0 (.int .i64 0) rfl
      have t1 := X12.out.base.cell 1 (.int .i64 0) rfl
      have t2 := X12.out.base.cell 2 (.int .i64 0) rfl
      have t3 := X12.out.base.cell 3 (.slice none 0 0) rfl
      obtain ⟨W20, hW20⟩ : ∃ W20, (((W12.setCell ⟨w.heap.size, 0, none⟩ (.int .i64 (B : Int))).setCell ⟨w.heap.size, 1, none⟩ (.int .i64 n)).setCell ⟨w.heap.size, 2, none⟩ (.int .i64 0)).setCell ⟨w.heap.size, 3, none⟩ (.slice va k vc) = W20 := ⟨_, rfl⟩
      have hput := xe_put X12.out.base _ _ _ _ hW20
      have HP := Lib.hid hput
      have HW20 := Lib.hid hW20
      have r0 : W20.cell? ⟨w.heap.size, 0, none⟩ = some (.int .i64 (B : Int)) := cell_of_row W20 _ 0 _ _ _ hput.1
      have r1 : W20.cell? ⟨w.heap.size, 1, none⟩ = some (.int .i64 n) := cell_of_row W20 _ 1 _ _ _ hput.1
      have r2 : W20.cell? ⟨w.heap.size, 2, none⟩ = some (.int .i64 0) := cell_of_row W20 _ 2 _ _ _ hput.1
      have r3 : W20.cell? ⟨w.heap.size, 3, none⟩ = some (.slice va k vc) := cell_of_row W20 _ 3 _ _ _ hput.1
      have OWE := Lib.hid (show OwnAt W20 w.heap.size 3 1 (.slice va k vc) (cellsI out) from (fun (h9 : OwnAt W20 w9.heap.size 3 1 (.slice va k vc) (cellsI out)) => ⟨ownsRow_base h9.1 (by have h1 := HB9.out; have h2 := X12.out.gt; omega), h9.2⟩) (own_kept O12.out hput.2.2.2 (fun j hj hn => by have h1 := (O12.out.1.lt j hj).1; have h2 := HB9.out; have h3 := X12.out.gt; omega)))
      clear hW20 hput
      go_wp2_with fail
      rw [HW20.out]
      (try simp only [Exit.inBlock, Exit.then])
      refine bodyPost_ret (v := .agg #[.int .i64 (B : Int), .int .i64 n, .int .i64 0, .slice va k vc]) (by simp [results, Tryz.results90, go_sem, r0, r1, r2, r3]) rfl ?_
      exact ⟨⟨(B : Int), n, 0, out⟩, _, rfl, OWE.out, HOL.out, fun _ => by rw [(Prod.mk.inj HRES.out).1], HP.out.2.1, HP.out.2.2.1⟩
/-- the document's own instr -/
theorem rfi_any (h : RfAt w rb S en r) {X : InsL} {Q : RS} (hx : instrP (cutS S en) r = (X, Q)) :
    Calls Tryz.prog 90 #[.pointer (some ⟨rb, 0, none⟩)] w (GotF w rb en S X Q) := by
  have hl := cut_len (S := S) h.le
  obtain ⟨B, q, hb⟩ : ∃ B q, oneP (cutS S en) r = (B, q) := ⟨_, _, rfl⟩
  have hqp : q.pos ≤ (cutS S en).length := by
    have h1 := h.pos
    unfold oneP at hb
    split at hb
    · split at hb
      · obtain ⟨_, rfl⟩ := Prod.mk.inj hb
        show r.pos + 1 ≤ _
        omega
      · obtain ⟨_, rfl⟩ := Prod.mk.inj hb
        show r.pos ≤ _
        omega
    · obtain ⟨_, rfl⟩ := Prod.mk.inj hb
      omega
  obtain ⟨⟨nm, sh, ps, rs⟩, hi⟩ : ∃ i, (opInfo (B : Int)).getD zeroI = i := ⟨_, rfl⟩
  obtain ⟨kn, hsm⟩ : ∃ kn, (opInfo (B : Int)).isSome = kn := ⟨_, rfl⟩
  by_cases hq : q.e = 0
  · cases hf : floatB (B : Int) with
    | true =>
      have hx2 : (X, Q) = (zeroX, ⟨q.pos, 3⟩) := by
        rw [← hx]
        unfold instrP
        rw [hb]
        dsimp only
        rw [hf, Bool.true_or, fail_yes hq, fail_no (.inr (by show (3 : Int) ≠ 0; decide)), if_neg (by show ¬ (3 : Int) = 0; decide)]
        rfl
      obtain ⟨rfl, rfl⟩ := Prod.mk.inj hx2
      exact rfi_f h hb hq hf
    | false =>
      by_cases h17 : B = 17
      · have hx2 : (X, Q) = (zeroX, ⟨q.pos, 3⟩) := by
          rw [← hx]
          unfold instrP
          rw [hb]
          dsimp only
          rw [hf, Bool.false_or, show (B == 17) = true by rw [h17]; rfl, fail_yes hq, fail_no (.inr (by show (3 : Int) ≠ 0; decide)), if_neg (by show ¬ (3 : Int) = 0; decide)]
          rfl
        obtain ⟨rfl, rfl⟩ := Prod.mk.inj hx2
        exact rfi_t h hb hq hf h17
      · cases kn with
        | false =>
          have hx2 : (X, Q) = (zeroX, ⟨q.pos, 2⟩) := by
            rw [← hx]
            unfold instrP
            rw [hb]
            dsimp only
            rw [hf, Bool.false_or, show (B == 17) = false from beq_eq_false_iff_ne.2 h17, fail_ok, hsm, Bool.not_false, fail_yes hq, if_neg (by show ¬ (2 : Int) = 0; decide)]
            rfl
          obtain ⟨rfl, rfl⟩ := Prod.mk.inj hx2
          exact rfi_u h hb hq hf h17 nm sh ps rs hi hsm
        | true =>
          rw [instr_rest _ _ hb hq hf h17 hsm] at hx
          have hshp : shapeOf (B : Int) = sh := by unfold shapeOf; rw [hi]
          unfold restP at hx
          rw [hshp] at hx
          have hr : 0 ≤ sh ∧ sh ≤ 7 := by
            obtain ⟨i, hi2⟩ := Option.isSome_iff_exists.1 hsm
            have := shape_range hi2
            rw [hi2] at hi
            change i = _ at hi
            rw [hi] at this
            exact this
          rcases (show sh = 0 ∨ sh = 1 ∨ sh = 2 ∨ sh = 3 ∨ sh = 4 ∨ sh = 5 ∨ sh = 6 ∨ sh = 7 by omega) with rfl | rfl | rfl | rfl | rfl | rfl | rfl | rfl
          · rw [if_neg (by decide), if_neg (by decide), if_neg (by decide), if_neg (by decide), if_neg (by decide), if_neg (by decide)] at hx
            obtain ⟨rfl, rfl⟩ := Prod.mk.inj hx
            exact rfi_s0 h hb hf h17 nm ps rs hi hsm hq
          · rw [if_pos rfl] at hx
            obtain ⟨T, q1, hT⟩ : ∃ T q1, oneP (cutS S en) q = (T, q1) := ⟨_, _, rfl⟩
            rw [hT] at hx
            dsimp only at hx
            obtain ⟨rfl, hQ⟩ := Prod.mk.inj hx
            by_cases he1 : q1.e = 0
            · rcases (show T = 125 ∨ T = 124 ∨ T = 64 ∨ T = 127 ∨ T = 126 ∨ (T ≠ 125 ∧ T ≠ 124 ∧ T ≠ 64 ∧ T ≠ 127 ∧ T ≠ 126) by omega) with h9 | h9 | h9 | h9 | h9 | h9
              · exact rfi_s1_125 h hb hf h17 nm ps rs hi hsm hq hT h9 he1 hQ
              · exact rfi_s1_124 h hb hf h17 nm ps rs hi hsm hq hT h9 he1 hQ
              · exact rfi_s1_64 h hb hf h17 nm ps rs hi hsm hq hT h9 he1 hQ
              · exact rfi_s1_127 h hb hf h17 nm ps rs hi hsm hq hT h9 he1 hQ
              · exact rfi_s1_126 h hb hf h17 nm ps rs hi hsm hq hT h9 he1 hQ
              · exact rfi_s1_o h hb hf h17 nm ps rs hi hsm hq hT h9 he1 hQ
            · have h0 : T = 0 := by
                unfold oneP at hT
                rw [if_pos hq] at hT
                split at hT
                · obtain ⟨_, rfl⟩ := Prod.mk.inj hT
                  exact absurd rfl he1
                · exact (Prod.mk.inj hT).1.symm
              exact rfi_s1_e h hb hf h17 nm ps rs hi hsm hq hT (by omega) he1 hQ
          · rw [if_neg (by decide), if_pos (by decide)] at hx
            obtain ⟨rfl, rfl⟩ := Prod.mk.inj hx
            exact rfi_s2 h hb hf h17 nm ps rs hi hsm hq rfl
          · rw [if_neg (by decide), if_neg (by decide), if_pos rfl] at hx
            obtain ⟨N, p1, hN⟩ : ∃ N p1, numberP (cutS S en) q = (N, p1) := ⟨_, _, rfl⟩
            have hb2 := readU_bounds (bits := 32) (l := cutS S en) (r := q) hqp
            change 0 ≤ (numberP (cutS S en) q).1 ∧ _ at hb2
            rw [hN] at hb2
            unfold listP at hx
            rw [hN] at hx
            dsimp only at hx
            by_cases he : (failP (decide (4096 < N)) 5 p1).e = 0
            · obtain ⟨hd, hp1⟩ := rfail_zero (by decide) he
              have hle : ¬ 4096 < N := of_decide_eq_false hd
              rw [hd, fail_ok] at hx
              obtain ⟨M, rfl⟩ : ∃ M : Nat, N = (M : Int) := ⟨N.toNat, by have := hb2.1; dsimp only at this; omega⟩
              rw [show ((M : Int)).toNat = M by omega] at hx
              obtain ⟨rfl, rfl⟩ := Prod.mk.inj hx
              exact rfi_s3 h hb hf h17 nm ps rs hi hsm hq hN (by omega) hp1 rfl rfl
            · have hlp : ∀ m : Nat, loopP numberP (cutS S en) m [] (failP (decide (4096 < N)) 5 p1) = ([], failP (decide (4096 < N)) 5 p1) := fun m => by
                cases m with
                | zero => rfl
                | succ m => rw [loopP, if_neg he]
              rw [hlp] at hx
              dsimp only at hx
              rw [number_err he] at hx
              obtain ⟨rfl, rfl⟩ := Prod.mk.inj hx
              exact rfi_s3e h hb hf h17 nm ps rs hi hsm hq hN he
          · rw [if_neg (by decide), if_pos (by decide)] at hx
            obtain ⟨rfl, rfl⟩ := Prod.mk.inj hx
            exact rfi_s4 h hb hf h17 nm ps rs hi hsm hq rfl
          · rw [if_neg (by decide), if_neg (by decide), if_neg (by decide), if_pos rfl] at hx
            obtain ⟨rfl, rfl⟩ := Prod.mk.inj hx
            exact rfi_s5 h hb hf h17 nm ps rs hi hsm hq rfl rfl
          · rw [if_neg (by decide), if_neg (by decide), if_neg (by decide), if_neg (by decide), if_pos rfl] at hx
            obtain ⟨rfl, rfl⟩ := Prod.mk.inj hx
            by_cases hT0 : (oneP (cutS S en) q).1 = 0
            · exact rfi_s6z h hb hf h17 nm ps rs hi hsm hq rfl hT0 rfl
            · exact rfi_s6n h hb hf h17 nm ps rs hi hsm hq rfl hT0 rfl
          · rw [if_neg (by decide), if_neg (by decide), if_neg (by decide), if_neg (by decide), if_neg (by decide), if_pos rfl] at hx
            by_cases h66 : B = 66
            · rw [if_pos h66] at hx
              obtain ⟨rfl, rfl⟩ := Prod.mk.inj hx
              exact rfi_s7a h hb hf h17 nm ps rs hi hsm hq h66 rfl
            · rw [if_neg h66] at hx
              obtain ⟨rfl, rfl⟩ := Prod.mk.inj hx
              exact rfi_s7b h hb hf h17 nm ps rs hi hsm hq h66 rfl
  · have hx2 : (X, Q) = (zeroX, q) := by
      rw [← hx]
      unfold instrP
      rw [hb]
      dsimp only
      rw [fail_no (.inr hq), fail_no (.inr hq), if_neg hq]
      rfl
    obtain ⟨rfl, rfl⟩ := Prod.mk.inj hx2
    exact rfi_e h hb hq
end Go.Proofs.YteidhccnbfikcaaGreatDoor.Dec

/- DecRfN: What the document's own Instr of chapter 6 reads. No condition beyond what each theorem names. -/
namespace Go.Proofs.YteidhccnbfikcaaGreatDoor.Dec
open Go.RowKit Go.Maps Go.Proofs.YteidhccnbfikcaaGreatDoor.Op Go.Proofs.YteidhccnbfikcaaGreatDoor.Mod Go.Proofs.YteidhccnbfikcaaGreatDoor.Leb Go.Proofs.YteidhccnbfikcaaGreatDoor.Enc
set_option linter.unusedVariables false
set_option linter.unusedSimpArgs false
variable {w w' W W' : World} {rb xb : Nat} {s : ByteArray} {r r' : RS}
theorem cut_all (s : ByteArray) : cutS s s.size = s.data.toList := by
  unfold cutS
  exact List.take_of_length_le (Nat.le_refl _)
set_option maxRecDepth 100000 in
set_option maxHeartbeats 2000000 in
theorem rdec_neg (at_ : Int) (w : World) (h : at_ < 0) :
    Calls Tryz.prog 19 #[.string s, .int .i64 at_] w (GotN w (zeroX, 0, 1)) := by
  have hd : decide (at_ < 0) = true := decide_eq_true h
  clear h
  obtain ⟨W1, hW1⟩ : ∃ W1, w.alloc (.cells #[.int .i64 0, .int .i64 0, .int .i64 0, .slice none 0 0] 33) = W1 := ⟨_, rfl⟩
  have B1 := Lib.hid (show Below w.heap.size w W1 by rw [← hW1]; exact (Below.refl _ _).alloc (Nat.le_refl _) _)
  have R1 := Lib.hid (show W1.heap[w.heap.size]? = some (.cells #[.int .i64 0, .int .i64 0, .int .i64 0, .slice none 0 0] 33 (0, 0)) by rw [← hW1]; exact heap_alloc_new _ _)
  have HW1 := Lib.hid hW1
  clear hW1
  go_enter Tryz.func19, Tryz.ntmps19
  go_upto_region 1 with fail
  rw [HW1.out]
  have f0 := frozen_of_row W1 _ 0 _ _ R1.out
  have f1 := frozen_of_row W1 _ 1 _ _ R1.out
  have f2 := frozen_of_row W1 _ 2 _ _ R1.out
  have f3 := frozen_of_row W1 _ 3 _ _ R1.out
  have t0 : W1.cell? ⟨w.heap.size, 0, none⟩ = some (.int .i64 0) := cell_of_row W1 _ 0 _ _ _ R1.out
  have t1 : W1.cell? ⟨w.heap.size, 1, none⟩ = some (.int .i64 0) := cell_of_row W1 _ 1 _ _ _ R1.out
  have t2 : W1.cell? ⟨w.heap.size, 2, none⟩ = some (.int .i64 0) := cell_of_row W1 _ 2 _ _ _ R1.out
  have t3 : W1.cell? ⟨w.heap.size, 3, none⟩ = some (.slice none 0 0) := cell_of_row W1 _ 3 _ _ _ R1.out
  have hs4 := set4b R1.out (.int .i64 0) (.int .i64 0) (.int .i64 0) (.slice none 0 0)
  obtain ⟨W9, hW9⟩ : ∃ W9, (((W1.setCell ⟨w.heap.size, 0, none⟩ (.int .i64 0)).setCell ⟨w.heap.size, 1, none⟩ (.int .i64 0)).setCell ⟨w.heap.size, 2, none⟩ (.int .i64 0)).setCell ⟨w.heap.size, 3, none⟩ (.slice none 0 0) = W9 := ⟨_, rfl⟩
  rw [hW9] at hs4
  have B9 := Lib.hid (show Below w.heap.size w W9 from B1.out.trans (hs4.2.below (fun j hj => by omega) B1.out.size))
  have HW9 := Lib.hid hW9
  have r0 : W9.cell? ⟨w.heap.size, 0, none⟩ = some (.int .i64 0) := cell_of_row W9 _ 0 _ _ _ hs4.1
  have r1 : W9.cell? ⟨w.heap.size, 1, none⟩ = some (.int .i64 0) := cell_of_row W9 _ 1 _ _ _ hs4.1
  have r2 : W9.cell? ⟨w.heap.size, 2, none⟩ = some (.int .i64 0) := cell_of_row W9 _ 2 _ _ _ hs4.1
  have r3 : W9.cell? ⟨w.heap.size, 3, none⟩ = some (.slice none 0 0) := cell_of_row W9 _ 3 _ _ _ hs4.1
  clear hW9 hs4
  go_wp2_with fail
  rw [HW9.out]
  (try simp only [Exit.inBlock, Exit.then])
  refine bodyPost_ret (v := .tuple #[.agg #[.int .i64 0, .int .i64 0, .int .i64 0, .slice none 0 0], .int .i64 0, .int .i64 1]) (by simp [results, Tryz.results19, go_sem, r0, r1, r2, r3]) rfl ?_
  exact ⟨_, rfl, own_nil _ _ _ _, Nat.zero_le _, B9.out⟩
set_option maxRecDepth 100000 in
set_option maxHeartbeats 2000000 in
theorem rdec_far (at_ : Int) (w : World) (h : ¬ at_ < 0) (h2 : (s.size : Int) < at_) :
    Calls Tryz.prog 19 #[.string s, .int .i64 at_] w (GotN w (zeroX, 0, 1)) := by
  have hd : decide (at_ < 0) = false := decide_eq_false h
  have hd2 : decide ((s.size : Int) < at_) = true := decide_eq_true h2
  clear h h2
  obtain ⟨W1, hW1⟩ : ∃ W1, w.alloc (.cells #[.int .i64 0, .int .i64 0, .int .i64 0, .slice none 0 0] 33) = W1 := ⟨_, rfl⟩
  have B1 := Lib.hid (show Below w.heap.size w W1 by rw [← hW1]; exact (Below.refl _ _).alloc (Nat.le_refl _) _)
  have R1 := Lib.hid (show W1.heap[w.heap.size]? = some (.cells #[.int .i64 0, .int .i64 0, .int .i64 0, .slice none 0 0] 33 (0, 0)) by rw [← hW1]; exact heap_alloc_new _ _)
  have HW1 := Lib.hid hW1
  clear hW1
  go_enter Tryz.func19, Tryz.ntmps19
  go_upto_region 1 with fail
  rw [HW1.out]
  have f0 := frozen_of_row W1 _ 0 _ _ R1.out
  have f1 := frozen_of_row W1 _ 1 _ _ R1.out
  have f2 := frozen_of_row W1 _ 2 _ _ R1.out
  have f3 := frozen_of_row W1 _ 3 _ _ R1.out
  have t0 : W1.cell? ⟨w.heap.size, 0, none⟩ = some (.int .i64 0) := cell_of_row W1 _ 0 _ _ _ R1.out
  have t1 : W1.cell? ⟨w.heap.size, 1, none⟩ = some (.int .i64 0) := cell_of_row W1 _ 1 _ _ _ R1.out
  have t2 : W1.cell? ⟨w.heap.size, 2, none⟩ = some (.int .i64 0) := cell_of_row W1 _ 2 _ _ _ R1.out
  have t3 : W1.cell? ⟨w.heap.size, 3, none⟩ = some (.slice none 0 0) := cell_of_row W1 _ 3 _ _ _ R1.out
  have hs4 := set4b R1.out (.int .i64 0) (.int .i64 0) (.int .i64 0) (.slice none 0 0)
  obtain ⟨W9, hW9⟩ : ∃ W9, (((W1.setCell ⟨w.heap.size, 0, none⟩ (.int .i64 0)).setCell ⟨w.heap.size, 1, none⟩ (.int .i64 0)).setCell ⟨w.heap.size, 2, none⟩ (.int .i64 0)).setCell ⟨w.heap.size, 3, none⟩ (.slice none 0 0) = W9 := ⟨_, rfl⟩
  rw [hW9] at hs4
  have B9 := Lib.hid (show Below w.heap.size w W9 from B1.out.trans (hs4.2.below (fun j hj => by omega) B1.out.size))
  have HW9 := Lib.hid hW9
  have r0 : W9.cell? ⟨w.heap.size, 0, none⟩ = some (.int .i64 0) := cell_of_row W9 _ 0 _ _ _ hs4.1
  have r1 : W9.cell? ⟨w.heap.size, 1, none⟩ = some (.int .i64 0) := cell_of_row W9 _ 1 _ _ _ hs4.1
  have r2 : W9.cell? ⟨w.heap.size, 2, none⟩ = some (.int .i64 0) := cell_of_row W9 _ 2 _ _ _ hs4.1
  have r3 : W9.cell? ⟨w.heap.size, 3, none⟩ = some (.slice none 0 0) := cell_of_row W9 _ 3 _ _ _ hs4.1
  clear hW9 hs4
  go_wp2_with fail
  rw [HW9.out]
  (try simp only [Exit.inBlock, Exit.then])
  refine bodyPost_ret (v := .tuple #[.agg #[.int .i64 0, .int .i64 0, .int .i64 0, .slice none 0 0], .int .i64 0, .int .i64 1]) (by simp [results, Tryz.results19, go_sem, r0, r1, r2, r3]) rfl ?_
  exact ⟨_, rfl, own_nil _ _ _ _, Nat.zero_le _, B9.out⟩
set_option maxRecDepth 100000 in
set_option maxHeartbeats 4000000 in
theorem rdec_err (p : Nat) (w : World) (hs : s.size ≤ 1000000000000000) (hp : p ≤ s.size) {X : InsL} {Q : RS} (hx : instrP s.data.toList ⟨p, 0⟩ = (X, Q)) (h0 : Q.e ≠ 0) :
    Calls Tryz.prog 19 #[.string s, .int .i64 (p : Int)] w (GotN w (zeroX, 0, Q.e)) := by
  have hd : decide ((p : Int) < 0) = false := decide_eq_false (by omega)
  have hd2 : decide ((s.size : Int) < (p : Int)) = false := decide_eq_false (by omega)
  have hd3 : decide (s.size < p) = false := decide_eq_false (by omega)
  have HX := Lib.hid hx
  have HP := Lib.hid hp
  have HS := Lib.hid hs
  have H0 := Lib.hid h0
  clear hx hp hs h0
  obtain ⟨W1, hW1⟩ : ∃ W1, w.alloc (.cells #[.int .i64 0, .int .i64 0, .int .i64 0, .slice none 0 0] 33) = W1 := ⟨_, rfl⟩
  have B1 := Lib.hid (show Below w.heap.size w W1 by rw [← hW1]; exact (Below.refl _ _).alloc (Nat.le_refl _) _)
  have R1 := Lib.hid (show W1.heap[w.heap.size]? = some (.cells #[.int .i64 0, .int .i64 0, .int .i64 0, .slice none 0 0] 33 (0, 0)) by rw [← hW1]; exact heap_alloc_new _ _)
  have HW1 := Lib.hid hW1
  clear hW1
  go_enter Tryz.func19, Tryz.ntmps19
  go_upto_region 1 with fail
  rw [HW1.out]
  go_upto_region 4 with fail
  obtain ⟨W2, hW2⟩ : ∃ W2, W1.alloc (.cells #[.string s, .int .i64 (p : Int), .int .i64 (s.size : Int), .int .i64 0] 151) = W2 := ⟨_, rfl⟩
  have z1 : w.heap.size < W1.heap.size := (Array.getElem?_eq_some_iff.1 R1.out).1
  have o1 : Below W1.heap.size W1 W2 := by rw [← hW2]; exact (Below.refl _ _).alloc (Nat.le_refl _) _
  have rowR : W2.heap[W1.heap.size]? = some (.cells (boxF s s.size ⟨p, 0⟩) 151 (0, 0)) := by rw [← hW2]; exact heap_alloc_new _ _
  have row0 := (o1.block w.heap.size z1).trans R1.out
  have HB2 := Lib.hid (B1.out.trans (o1.mono B1.out.size))
  rw [hW2]
  have HRD := Lib.hid (show RfAt W2 W1.heap.size s s.size ⟨p, 0⟩ from ⟨rowR, Nat.le_refl _, HP.out, HS.out⟩)
  have R2 := Lib.hid row0
  have NR := Lib.hid (show w.heap.size < W1.heap.size from z1)
  clear hW2 z1 o1 rowR row0 B1 R1 HW1 hd hd2 hd3
  generalize W1.heap.size = rb at *
  go_wp2_with fail
  refine (rfi_any HRD.out (X := X) (Q := Q) (by rw [cut_all]; exact HX.out)).mono ?_
  rintro e w3 ⟨x, lv, rfl, o3, l3, e3, h3, k3⟩
  obtain ⟨va, vc, rfl⟩ := own_form o3.1
  have hlen : (cellsI x.labels).length = x.labels.length := cells_len _
  rw [hlen] at o3 ⊢
  have row3 : w3.heap[w.heap.size]? = some (.cells #[.int .i64 0, .int .i64 0, .int .i64 0, .slice none 0 0] 33 (0, 0)) := (k3.block w.heap.size (Array.getElem?_eq_some_iff.1 R2.out).1 (fun e => by have h2 := NR.out; omega)).trans R2.out
  have z2 : w.heap.size < W2.heap.size := (Array.getElem?_eq_some_iff.1 R2.out).1
  go_upto_region 5 with fail
  obtain ⟨W4, hW4⟩ : ∃ W4, w3.alloc (.cells #[.int .i64 x.op, .int .i64 x.a, .int .i64 x.b, .slice va x.labels.length vc] 33) = W4 := ⟨_, rfl⟩
  have b4 : Below w3.heap.size w3 W4 := by rw [← hW4]; exact (Below.refl _ _).alloc (Nat.le_refl _) _
  have HXR := Lib.hid (show W4.heap[w3.heap.size]? = some (.cells #[.int .i64 x.op, .int .i64 x.a, .int .i64 x.b, .slice va x.labels.length vc] 33 (0, 0)) by rw [← hW4]; exact heap_alloc_new _ _)
  have H4 := Lib.hid (show RfAt W4 rb s s.size Q from h3.later b4)
  have OW4 := Lib.hid (o3.later b4)
  have R4 := Lib.hid (show W4.heap[w.heap.size]? = _ from (b4.block w.heap.size (Array.getElem?_eq_some_iff.1 row3).1).trans row3)
  have BL4 := Lib.hid (show Below w.heap.size w W4 from (HB2.out.trans (k3.below (fun j hj => by have := NR.out; omega) HB2.out.size)).trans (b4.mono (by have := HB2.out.size; have := k3.size; omega)))
  have HLL := Lib.hid l3
  have HE3 := Lib.hid e3
  have Z2 := Lib.hid z2
  have XB := Lib.hid (show w.heap.size < w3.heap.size from (Array.getElem?_eq_some_iff.1 row3).1)
  rw [hW4]
  clear hW4 h3 k3 o3 l3 e3 row3 z2 hlen b4
  generalize w3.heap.size = xb at *
  have a2 := H4.out.c3
  obtain ⟨q, er⟩ := Q
  have hne : (er == 0) = false := beq_eq_false_iff_ne.2 H0.out
  have hne2 : (er != 0) = true := bne_iff_ne.2 H0.out
  dsimp only at a2
  go_upto_region 6 with fail
  refine wp_region_held_drew (S := fun W => W.cell? ⟨rb, 3, none⟩ = some (.int .i64 er) ∧ Below w.heap.size w W) (by kernel_rfl) ⟨a2, BL4.out.drew⟩ (fun hHeld => ?_)
  obtain ⟨V0, hV0⟩ : ∃ V, W4.drew = V := ⟨_, rfl⟩
  have HV0 := Lib.hid (show RfAt V0 rb s s.size _ ∧ OwnAt V0 W2.heap.size 3 1 (.slice va x.labels.length vc) (cellsI x.labels) ∧ Below w.heap.size w V0 ∧ V0.heap[xb]? = some (.cells #[.int .i64 x.op, .int .i64 x.a, .int .i64 x.b, .slice va x.labels.length vc] 33 (0, 0)) from by rw [← hV0]; exact ⟨H4.out.later (Below.refl _ _).drew, OW4.out.later (Below.refl _ _).drew, BL4.out.drew, HXR.out⟩)
  have RV0 := Lib.hid (show V0.heap[w.heap.size]? = some (.cells #[.int .i64 0, .int .i64 0, .int .i64 0, .slice none 0 0] 33 (0, 0)) from by rw [← hV0]; exact R4.out)
  rw [hV0] at hHeld ⊢
  clear hV0
  have f0 := frozen_of_row V0 _ 0 _ _ RV0.out
  have f1 := frozen_of_row V0 _ 1 _ _ RV0.out
  have f2 := frozen_of_row V0 _ 2 _ _ RV0.out
  have f3 := frozen_of_row V0 _ 3 _ _ RV0.out
  have t0 : V0.cell? ⟨w.heap.size, 0, none⟩ = some (.int .i64 0) := cell_of_row V0 _ 0 _ _ _ RV0.out
  have t1 : V0.cell? ⟨w.heap.size, 1, none⟩ = some (.int .i64 0) := cell_of_row V0 _ 1 _ _ _ RV0.out
  have t2 : V0.cell? ⟨w.heap.size, 2, none⟩ = some (.int .i64 0) := cell_of_row V0 _ 2 _ _ _ RV0.out
  have t3 : V0.cell? ⟨w.heap.size, 3, none⟩ = some (.slice none 0 0) := cell_of_row V0 _ 3 _ _ _ RV0.out
  have hs4 := set4b RV0.out (.int .i64 0) (.int .i64 0) (.int .i64 0) (.slice none 0 0)
  obtain ⟨W9, hW9⟩ : ∃ W9, (((V0.setCell ⟨w.heap.size, 0, none⟩ (.int .i64 0)).setCell ⟨w.heap.size, 1, none⟩ (.int .i64 0)).setCell ⟨w.heap.size, 2, none⟩ (.int .i64 0)).setCell ⟨w.heap.size, 3, none⟩ (.slice none 0 0) = W9 := ⟨_, rfl⟩
  rw [hW9] at hs4
  have B9 := Lib.hid (show Below w.heap.size w W9 from (HV0.out.2.2.1).trans (hs4.2.below (fun j hj => by omega) HV0.out.2.2.1.size))
  have H9 := Lib.hid (show RfAt W9 rb s s.size _ from HV0.out.1.kept hs4.2 (by have := NR.out; omega))
  have OW9 := Lib.hid (own_kept HV0.out.2.1 hs4.2 (fun j hj hn => by have := (HV0.out.2.1.1.lt j hj).1; have := Z2.out; omega))
  have X9 := Lib.hid (show W9.heap[xb]? = _ from (hs4.2.block xb (Array.getElem?_eq_some_iff.1 HV0.out.2.2.2).1 (by have := XB.out; omega)).trans HV0.out.2.2.2)
  have R9 := Lib.hid hs4.1
  have HW9 := Lib.hid hW9
  clear hW9 hs4
  refine take_yes (i := 0) (d := (some 31)) (v := ?_) rfl (by kernel_rfl) (by kernel_rfl) (by kernel_rfl) rfl (fun _ _ _ h => h) (by rfl) (by assumption) ?_ ?_
  rotate_left
  · (intro w hSw; (try dsimp only at hSw); go_simp; try with_reducible rfl)
  try simp only [Act.put, List.setIfInBounds_toArray, List.set_cons_zero, List.set_cons_succ]
  refine take_yes (i := 1) (d := (some 32)) (v := ?_) rfl (by kernel_rfl) (by kernel_rfl) (by kernel_rfl) rfl (fun _ _ _ h => h) (by rfl) (by assumption) ?_ ?_
  rotate_left
  · (intro w hSw; (try dsimp only at hSw); go_simp; try with_reducible rfl)
  try simp only [Act.put, List.setIfInBounds_toArray, List.set_cons_zero, List.set_cons_succ]
  refine take_yes (i := 2) (d := (some 33)) (v := ?_) rfl (by kernel_rfl) (by kernel_rfl) (by kernel_rfl) rfl (fun _ _ _ h => h) (by rfl) (by assumption) ?_ ?_
  rotate_left
  · (intro w hSw; (try dsimp only at hSw); go_simp; try with_reducible rfl)
  try simp only [Act.put, List.setIfInBounds_toArray, List.set_cons_zero, List.set_cons_succ]
  refine take_yes (i := 3) (d := (some 34)) (v := ?_) rfl (by kernel_rfl) (by kernel_rfl) (by kernel_rfl) rfl (fun _ _ _ h => h) (by rfl) (by assumption) ?_ ?_
  rotate_left
  · (intro w hSw; (try dsimp only at hSw); go_simp; try with_reducible rfl)
  try simp only [Act.put, List.setIfInBounds_toArray, List.set_cons_zero, List.set_cons_succ]
  refine take_yes (i := 4) (d := (some 35)) (v := ?_) rfl (by kernel_rfl) (by kernel_rfl) (by kernel_rfl) rfl (fun _ _ _ h => h) (by rfl) (by assumption) ?_ ?_
  rotate_left
  · (intro w hSw; (try dsimp only at hSw); go_simp; try with_reducible rfl)
  try simp only [Act.put, List.setIfInBounds_toArray, List.set_cons_zero, List.set_cons_succ]
  refine wpAnyH_ready (rs := [5]) (by kernel_rfl) (by simp) ?_
  refine (AllReadyH.cons (o := _) rfl (fun K hK => ?_) AllReadyH.nil)
  go_simp
  rw [HW9.out]
  refine hK.out _ _ ⟨H9.out.c3, B9.out⟩ (fun hHeld => ?_)
  clear f0 f1 f2 f3 t0 t1 t2 t3
  clear hK K
  try simp only [Act.put, List.setIfInBounds_toArray, List.set_cons_zero, List.set_cons_succ]
  refine take_yes (i := 6) (d := (some 5)) (v := ?_) rfl (by kernel_rfl) (by kernel_rfl) (by kernel_rfl) rfl (fun _ _ _ h => h) (by rfl) (by assumption) ?_ ?_
  rotate_left
  · (intro w hSw; (try dsimp only at hSw); go_simp; try with_reducible rfl)
  try simp only [Act.put, List.setIfInBounds_toArray, List.set_cons_zero, List.set_cons_succ]
  refine take_yes (i := 7) (d := (some 6)) (v := ?_) rfl (by kernel_rfl) (by kernel_rfl) (by kernel_rfl) rfl (fun _ _ _ h => h) (by rfl) (by assumption) ?_ ?_
  rotate_left
  · (intro w hSw; (try dsimp only at hSw); go_simp; try with_reducible rfl)
  try simp only [Act.put, List.setIfInBounds_toArray, List.set_cons_zero, List.set_cons_succ]
  refine wpAnyH_done (by kernel_rfl) ?_ _
  have r0 : W9.cell? ⟨w.heap.size, 0, none⟩ = some (.int .i64 0) := cell_of_row W9 _ 0 _ _ _ R9.out
  have r1 : W9.cell? ⟨w.heap.size, 1, none⟩ = some (.int .i64 0) := cell_of_row W9 _ 1 _ _ _ R9.out
  have r2 : W9.cell? ⟨w.heap.size, 2, none⟩ = some (.int .i64 0) := cell_of_row W9 _ 2 _ _ _ R9.out
  have r3 : W9.cell? ⟨w.heap.size, 3, none⟩ = some (.slice none 0 0) := cell_of_row W9 _ 3 _ _ _ R9.out
  clear hHeld
  go_wp2_with fail
  (try simp only [Exit.inBlock, Exit.then])
  refine bodyPost_ret (v := .tuple #[.agg #[.int .i64 0, .int .i64 0, .int .i64 0, .slice none 0 0], .int .i64 0, .int .i64 er]) (by simp [results, Tryz.results19, go_sem, r0, r1, r2, r3]) rfl ?_
  exact ⟨_, rfl, own_nil _ _ _ _, Nat.zero_le _, B9.out⟩
set_option maxRecDepth 100000 in
set_option maxHeartbeats 4000000 in
theorem rdec_ok (p : Nat) (w : World) (hs : s.size ≤ 1000000000000000) (hp : p ≤ s.size) {X : InsL} {Q : RS} (hx : instrP s.data.toList ⟨p, 0⟩ = (X, Q)) (h0 : Q.e = 0) :
    Calls Tryz.prog 19 #[.string s, .int .i64 (p : Int)] w (GotN w (X, (Q.pos : Int), 0)) := by
  have hd : decide ((p : Int) < 0) = false := decide_eq_false (by omega)
  have hd2 : decide ((s.size : Int) < (p : Int)) = false := decide_eq_false (by omega)
  have hd3 : decide (s.size < p) = false := decide_eq_false (by omega)
  have HX := Lib.hid hx
  have HP := Lib.hid hp
  have HS := Lib.hid hs
  have H0 := Lib.hid h0
  clear hx hp hs h0
  obtain ⟨W1, hW1⟩ : ∃ W1, w.alloc (.cells #[.int .i64 0, .int .i64 0, .int .i64 0, .slice none 0 0] 33) = W1 := ⟨_, rfl⟩
  have B1 := Lib.hid (show Below w.heap.size w W1 by rw [← hW1]; exact (Below.refl _ _).alloc (Nat.le_refl _) _)
  have R1 := Lib.hid (show W1.heap[w.heap.size]? = some (.cells #[.int .i64 0, .int .i64 0, .int .i64 0, .slice none 0 0] 33 (0, 0)) by rw [← hW1]; exact heap_alloc_new _ _)
  have HW1 := Lib.hid hW1
  clear hW1
  go_enter Tryz.func19, Tryz.ntmps19
  go_upto_region 1 with fail
  rw [HW1.out]
  go_upto_region 4 with fail
  obtain ⟨W2, hW2⟩ : ∃ W2, W1.alloc (.cells #[.string s, .int .i64 (p : Int), .int .i64 (s.size : Int), .int .i64 0] 151) = W2 := ⟨_, rfl⟩
  have z1 : w.heap.size < W1.heap.size := (Array.getElem?_eq_some_iff.1 R1.out).1
  have o1 : Below W1.heap.size W1 W2 := by rw [← hW2]; exact (Below.refl _ _).alloc (Nat.le_refl _) _
  have rowR : W2.heap[W1.heap.size]? = some (.cells (boxF s s.size ⟨p, 0⟩) 151 (0, 0)) := by rw [← hW2]; exact heap_alloc_new _ _
  have row0 := (o1.block w.heap.size z1).trans R1.out
  have HB2 := Lib.hid (B1.out.trans (o1.mono B1.out.size))
  rw [hW2]
  have HRD := Lib.hid (show RfAt W2 W1.heap.size s s.size ⟨p, 0⟩ from ⟨rowR, Nat.le_refl _, HP.out, HS.out⟩)
  have R2 := Lib.hid row0
  have NR := Lib.hid (show w.heap.size < W1.heap.size from z1)
  clear hW2 z1 o1 rowR row0 B1 R1 HW1 hd hd2 hd3
  generalize W1.heap.size = rb at *
  go_wp2_with fail
  refine (rfi_any HRD.out (X := X) (Q := Q) (by rw [cut_all]; exact HX.out)).mono ?_
  rintro e w3 ⟨x, lv, rfl, o3, l3, e3, h3, k3⟩
  obtain ⟨va, vc, rfl⟩ := own_form o3.1
  have hlen : (cellsI x.labels).length = x.labels.length := cells_len _
  rw [hlen] at o3 ⊢
  have row3 : w3.heap[w.heap.size]? = some (.cells #[.int .i64 0, .int .i64 0, .int .i64 0, .slice none 0 0] 33 (0, 0)) := (k3.block w.heap.size (Array.getElem?_eq_some_iff.1 R2.out).1 (fun e => by have h2 := NR.out; omega)).trans R2.out
  have z2 : w.heap.size < W2.heap.size := (Array.getElem?_eq_some_iff.1 R2.out).1
  go_upto_region 5 with fail
  obtain ⟨W4, hW4⟩ : ∃ W4, w3.alloc (.cells #[.int .i64 x.op, .int .i64 x.a, .int .i64 x.b, .slice va x.labels.length vc] 33) = W4 := ⟨_, rfl⟩
  have b4 : Below w3.heap.size w3 W4 := by rw [← hW4]; exact (Below.refl _ _).alloc (Nat.le_refl _) _
  have HXR := Lib.hid (show W4.heap[w3.heap.size]? = some (.cells #[.int .i64 x.op, .int .i64 x.a, .int .i64 x.b, .slice va x.labels.length vc] 33 (0, 0)) by rw [← hW4]; exact heap_alloc_new _ _)
  have H4 := Lib.hid (show RfAt W4 rb s s.size Q from h3.later b4)
  have OW4 := Lib.hid (o3.later b4)
  have R4 := Lib.hid (show W4.heap[w.heap.size]? = _ from (b4.block w.heap.size (Array.getElem?_eq_some_iff.1 row3).1).trans row3)
  have BL4 := Lib.hid (show Below w.heap.size w W4 from (HB2.out.trans (k3.below (fun j hj => by have := NR.out; omega) HB2.out.size)).trans (b4.mono (by have := HB2.out.size; have := k3.size; omega)))
  have HLL := Lib.hid l3
  have HE3 := Lib.hid e3
  have Z2 := Lib.hid z2
  have XB := Lib.hid (show w.heap.size < w3.heap.size from (Array.getElem?_eq_some_iff.1 row3).1)
  rw [hW4]
  clear hW4 h3 k3 o3 l3 e3 row3 z2 hlen b4
  generalize w3.heap.size = xb at *
  have a2 := H4.out.c3
  obtain ⟨q, er⟩ := Q
  obtain rfl : er = 0 := H0.out
  dsimp only at a2
  go_upto_region 7 with fail
  have a1 := H4.out.c1
  dsimp only at a1
  clear a2
  have c0 : W4.cell? ⟨xb, 0, none⟩ = some (.int .i64 x.op) := cell_of_row W4 _ 0 _ _ _ HXR.out
  have c1 : W4.cell? ⟨xb, 1, none⟩ = some (.int .i64 x.a) := cell_of_row W4 _ 1 _ _ _ HXR.out
  have c2 : W4.cell? ⟨xb, 2, none⟩ = some (.int .i64 x.b) := cell_of_row W4 _ 2 _ _ _ HXR.out
  have c3 : W4.cell? ⟨xb, 3, none⟩ = some (.slice va x.labels.length vc) := cell_of_row W4 _ 3 _ _ _ HXR.out
  refine wp_region_held_drew (S := fun W => W.cell? ⟨rb, 1, none⟩ = some (.int .i64 (q : Int)) ∧ W.cell? ⟨xb, 0, none⟩ = some (.int .i64 x.op) ∧ W.cell? ⟨xb, 1, none⟩ = some (.int .i64 x.a) ∧ W.cell? ⟨xb, 2, none⟩ = some (.int .i64 x.b) ∧ W.cell? ⟨xb, 3, none⟩ = some (.slice va x.labels.length vc) ∧ Below w.heap.size w W) (by kernel_rfl) ⟨a1, c0, c1, c2, c3, BL4.out.drew⟩ (fun hHeld => ?_)
  obtain ⟨V0, hV0⟩ : ∃ V, W4.drew = V := ⟨_, rfl⟩
  have HV0 := Lib.hid (show RfAt V0 rb s s.size _ ∧ OwnAt V0 W2.heap.size 3 1 (.slice va x.labels.length vc) (cellsI x.labels) ∧ Below w.heap.size w V0 ∧ V0.heap[xb]? = some (.cells #[.int .i64 x.op, .int .i64 x.a, .int .i64 x.b, .slice va x.labels.length vc] 33 (0, 0)) from by rw [← hV0]; exact ⟨H4.out.later (Below.refl _ _).drew, OW4.out.later (Below.refl _ _).drew, BL4.out.drew, HXR.out⟩)
  have RV0 := Lib.hid (show V0.heap[w.heap.size]? = some (.cells #[.int .i64 0, .int .i64 0, .int .i64 0, .slice none 0 0] 33 (0, 0)) from by rw [← hV0]; exact R4.out)
  rw [hV0] at hHeld ⊢
  clear hV0
  have f0 := frozen_of_row V0 _ 0 _ _ RV0.out
  have f1 := frozen_of_row V0 _ 1 _ _ RV0.out
  have f2 := frozen_of_row V0 _ 2 _ _ RV0.out
  have f3 := frozen_of_row V0 _ 3 _ _ RV0.out
  have t0 : V0.cell? ⟨w.heap.size, 0, none⟩ = some (.int .i64 0) := cell_of_row V0 _ 0 _ _ _ RV0.out
  have t1 : V0.cell? ⟨w.heap.size, 1, none⟩ = some (.int .i64 0) := cell_of_row V0 _ 1 _ _ _ RV0.out
  have t2 : V0.cell? ⟨w.heap.size, 2, none⟩ = some (.int .i64 0) := cell_of_row V0 _ 2 _ _ _ RV0.out
  have t3 : V0.cell? ⟨w.heap.size, 3, none⟩ = some (.slice none 0 0) := cell_of_row V0 _ 3 _ _ _ RV0.out
  have hs4 := set4b RV0.out (.int .i64 x.op) (.int .i64 x.a) (.int .i64 x.b) (.slice va x.labels.length vc)
  obtain ⟨W9, hW9⟩ : ∃ W9, (((V0.setCell ⟨w.heap.size, 0, none⟩ (.int .i64 x.op)).setCell ⟨w.heap.size, 1, none⟩ (.int .i64 x.a)).setCell ⟨w.heap.size, 2, none⟩ (.int .i64 x.b)).setCell ⟨w.heap.size, 3, none⟩ (.slice va x.labels.length vc) = W9 := ⟨_, rfl⟩
  rw [hW9] at hs4
  have B9 := Lib.hid (show Below w.heap.size w W9 from (HV0.out.2.2.1).trans (hs4.2.below (fun j hj => by omega) HV0.out.2.2.1.size))
  have H9 := Lib.hid (show RfAt W9 rb s s.size _ from HV0.out.1.kept hs4.2 (by have := NR.out; omega))
  have OW9 := Lib.hid (own_kept HV0.out.2.1 hs4.2 (fun j hj hn => by have := (HV0.out.2.1.1.lt j hj).1; have := Z2.out; omega))
  have X9 := Lib.hid (show W9.heap[xb]? = _ from (hs4.2.block xb (Array.getElem?_eq_some_iff.1 HV0.out.2.2.2).1 (by have := XB.out; omega)).trans HV0.out.2.2.2)
  have R9 := Lib.hid hs4.1
  have HW9 := Lib.hid hW9
  clear hW9 hs4
  refine take_yes (i := 0) (d := (some 36)) (v := ?_) rfl (by kernel_rfl) (by kernel_rfl) (by kernel_rfl) rfl (fun _ _ _ h => h) (by rfl) (by assumption) ?_ ?_
  rotate_left
  · (intro w hSw; (try dsimp only at hSw); go_simp; try with_reducible rfl)
  try simp only [Act.put, List.setIfInBounds_toArray, List.set_cons_zero, List.set_cons_succ]
  refine take_yes (i := 1) (d := (some 37)) (v := ?_) rfl (by kernel_rfl) (by kernel_rfl) (by kernel_rfl) rfl (fun _ _ _ h => h) (by rfl) (by assumption) ?_ ?_
  rotate_left
  · (intro w hSw; (try dsimp only at hSw); go_simp; try with_reducible rfl)
  try simp only [Act.put, List.setIfInBounds_toArray, List.set_cons_zero, List.set_cons_succ]
  refine take_yes (i := 2) (d := (some 38)) (v := ?_) rfl (by kernel_rfl) (by kernel_rfl) (by kernel_rfl) rfl (fun _ _ _ h => h) (by rfl) (by assumption) ?_ ?_
  rotate_left
  · (intro w hSw; (try dsimp only at hSw); go_simp; try with_reducible rfl)
  try simp only [Act.put, List.setIfInBounds_toArray, List.set_cons_zero, List.set_cons_succ]
  refine take_yes (i := 3) (d := (some 39)) (v := ?_) rfl (by kernel_rfl) (by kernel_rfl) (by kernel_rfl) rfl (fun _ _ _ h => h) (by rfl) (by assumption) ?_ ?_
  rotate_left
  · (intro w hSw; (try dsimp only at hSw); go_simp; try with_reducible rfl)
  try simp only [Act.put, List.setIfInBounds_toArray, List.set_cons_zero, List.set_cons_succ]
  refine take_yes (i := 4) (d := (some 40)) (v := ?_) rfl (by kernel_rfl) (by kernel_rfl) (by kernel_rfl) rfl (fun _ _ _ h => h) (by rfl) (by assumption) ?_ ?_
  rotate_left
  · (intro w hSw; (try dsimp only at hSw); go_simp; try with_reducible rfl)
  try simp only [Act.put, List.setIfInBounds_toArray, List.set_cons_zero, List.set_cons_succ]
  refine wpAnyH_ready (rs := [5]) (by kernel_rfl) (by simp) ?_
  refine (AllReadyH.cons (o := _) rfl (fun K hK => ?_) AllReadyH.nil)
  go_simp
  rw [HW9.out]
  refine hK.out _ _ ⟨H9.out.c1, cell_of_row W9 _ 0 _ _ _ X9.out, cell_of_row W9 _ 1 _ _ _ X9.out, cell_of_row W9 _ 2 _ _ _ X9.out, cell_of_row W9 _ 3 _ _ _ X9.out, B9.out⟩ (fun hHeld => ?_)
  clear f0 f1 f2 f3 t0 t1 t2 t3
  clear hK K
  try simp only [Act.put, List.setIfInBounds_toArray, List.set_cons_zero, List.set_cons_succ]
  refine take_yes (i := 6) (d := (some 5)) (v := ?_) rfl (by kernel_rfl) (by kernel_rfl) (by kernel_rfl) rfl (fun _ _ _ h => h) (by rfl) (by assumption) ?_ ?_
  rotate_left
  · (intro w hSw; (try dsimp only at hSw); go_simp; try with_reducible rfl)
  try simp only [Act.put, List.setIfInBounds_toArray, List.set_cons_zero, List.set_cons_succ]
  refine take_yes (i := 7) (d := (some 6)) (v := ?_) rfl (by kernel_rfl) (by kernel_rfl) (by kernel_rfl) rfl (fun _ _ _ h => h) (by rfl) (by assumption) ?_ ?_
  rotate_left
  · (intro w hSw; (try dsimp only at hSw); go_simp; try with_reducible rfl)
  try simp only [Act.put, List.setIfInBounds_toArray, List.set_cons_zero, List.set_cons_succ]
  refine wpAnyH_done (by kernel_rfl) ?_ _
  have r0 : W9.cell? ⟨w.heap.size, 0, none⟩ = some (.int .i64 x.op) := cell_of_row W9 _ 0 _ _ _ R9.out
  have r1 : W9.cell? ⟨w.heap.size, 1, none⟩ = some (.int .i64 x.a) := cell_of_row W9 _ 1 _ _ _ R9.out
  have r2 : W9.cell? ⟨w.heap.size, 2, none⟩ = some (.int .i64 x.b) := cell_of_row W9 _ 2 _ _ _ R9.out
  have r3 : W9.cell? ⟨w.heap.size, 3, none⟩ = some (.slice va x.labels.length vc) := cell_of_row W9 _ 3 _ _ _ R9.out
  clear hHeld
  go_wp2_with fail
  obtain rfl := HE3.out (by simp)
  (try simp only [Exit.inBlock, Exit.then])
  refine bodyPost_ret (v := .tuple #[.agg #[.int .i64 x.op, .int .i64 x.a, .int .i64 x.b, .slice va x.labels.length vc], .int .i64 (q : Int), .int .i64 0]) (by simp [results, Tryz.results19, go_sem, r0, r1, r2, r3]) rfl ?_
  exact ⟨_, rfl, ⟨ownsRow_base OW9.out.1 (by have := Z2.out; omega), OW9.out.2⟩, HLL.out, B9.out⟩
/-- the document's own Instr -/
theorem rdecI_any (s : ByteArray) (at_ : Int) (w : World) (hs : s.size ≤ 1000000000000000) :
    Calls Tryz.prog 19 #[.string s, .int .i64 at_] w (GotN w (decI s.data.toList at_)) := by
  have e : (s.data.toList.length : Int) = (s.size : Int) := rfl
  unfold decI
  by_cases h : at_ < 0
  · rw [if_pos (.inl h)]
    exact rdec_neg at_ w h
  · by_cases h2 : (s.size : Int) < at_
    · rw [if_pos (.inr (by rw [e]; exact h2))]
      exact rdec_far at_ w h h2
    · rw [if_neg (by rw [e]; omega)]
      obtain ⟨p, rfl⟩ : ∃ p : Nat, at_ = (p : Int) := ⟨at_.toNat, by omega⟩
      rw [show ((p : Int)).toNat = p by omega]
      dsimp only
      by_cases h0 : (instrP s.data.toList ⟨p, 0⟩).2.e = 0
      · rw [if_pos h0]
        exact rdec_ok p w hs (by omega) rfl h0
      · rw [if_neg h0]
        exact rdec_err p w hs (by omega) rfl h0
end Go.Proofs.YteidhccnbfikcaaGreatDoor.Dec
