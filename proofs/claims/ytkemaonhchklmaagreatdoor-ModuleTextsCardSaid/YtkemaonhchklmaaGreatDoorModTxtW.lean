/-
  The law of texts, and of what is the same: the walk. No condition beyond what each theorem names.
-/
import Derived.Test.YtkemaonhchklmaaGreatDoorMdRt
import Derived.Test.YtkemaonhchklmaaGreatDoorModEx
import Derived.Test.YtkemaonhchklmaaGreatDoorRegTake
namespace Go.Proofs.YtkemaonhchklmaaGreatDoor.Mod
open Go.RowKit Go.Maps Go.Proofs.YtkemaonhchklmaaGreatDoor.Op Go.Lib
set_option linter.unusedVariables false
set_option linter.unusedSimpArgs false
abbrev HeldT2 (w : World) (ta fa ma ga ea da tb fb mb gb eb db : Option Addr) (tc fc mc gc ec dc td fd md gd ed dd : Nat) (m n : ModP) (W : World) : Prop :=
  W.cell? ⟨w.heap.size + 1, 0, none⟩ = some (.slice ta m.types.length tc) ∧ W.cell? ⟨w.heap.size + 1, 1, none⟩ = some (.slice fa m.funcs.length fc) ∧ W.cell? ⟨w.heap.size + 1, 2, none⟩ = some (.slice ma m.memory.length mc) ∧ W.cell? ⟨w.heap.size + 1, 3, none⟩ = some (.slice ga m.globals.length gc) ∧ W.cell? ⟨w.heap.size + 1, 4, none⟩ = some (.slice ea m.exports.length ec) ∧ W.cell? ⟨w.heap.size + 1, 5, none⟩ = some (.int .i64 m.start) ∧ W.cell? ⟨w.heap.size + 1, 6, none⟩ = some (.slice da m.data.length dc) ∧ W.cell? ⟨w.heap.size + 2, 0, none⟩ = some (.slice tb n.types.length td) ∧ W.cell? ⟨w.heap.size + 2, 1, none⟩ = some (.slice fb n.funcs.length fd) ∧ W.cell? ⟨w.heap.size + 2, 2, none⟩ = some (.slice mb n.memory.length md) ∧ W.cell? ⟨w.heap.size + 2, 3, none⟩ = some (.slice gb n.globals.length gd) ∧ W.cell? ⟨w.heap.size + 2, 4, none⟩ = some (.slice eb n.exports.length ed) ∧ W.cell? ⟨w.heap.size + 2, 5, none⟩ = some (.int .i64 n.start) ∧ W.cell? ⟨w.heap.size + 2, 6, none⟩ = some (.slice db n.data.length dd) ∧ Below w.heap.size w W
theorem heldT2_later {w : World} {ta fa ma ga ea da tb fb mb gb eb db : Option Addr} {tc fc mc gc ec dc td fd md gd ed dd : Nat} {m n : ModP} {W W' : World} (c : Below W.heap.size W W') (h : HeldT2 w ta fa ma ga ea da tb fb mb gb eb db tc fc mc gc ec dc td fd md gd ed dd m n W) : HeldT2 w ta fa ma ga ea da tb fb mb gb eb db tc fc mc gc ec dc td fd md gd ed dd m n W' := by
  obtain ⟨h0, h1, h2, h3, h4, h5, h6, h7, h8, h9, h10, h11, h12, h13, h14⟩ := h
  exact ⟨cell_later c h0, cell_later c h1, cell_later c h2, cell_later c h3, cell_later c h4, cell_later c h5, cell_later c h6, cell_later c h7, cell_later c h8, cell_later c h9, cell_later c h10, cell_later c h11, cell_later c h12, cell_later c h13, h14.trans (c.mono h14.size)⟩
theorem HeldT2.below {w : World} {ta fa ma ga ea da tb fb mb gb eb db : Option Addr} {tc fc mc gc ec dc td fd md gd ed dd : Nat} {m n : ModP} {W : World} (h : HeldT2 w ta fa ma ga ea da tb fb mb gb eb db tc fc mc gc ec dc td fd md gd ed dd m n W) : Below w.heap.size w W := h.2.2.2.2.2.2.2.2.2.2.2.2.2.2
def CaV (w : World) (f : FuncId) (args : Array Value) (b : Value) : Prop := ∀ W, Below w.heap.size w W → Calls Tryz.prog f args W fun e w' => e = .returned b ∧ Below W.heap.size W w' 
set_option maxRecDepth 100000 in
set_option maxHeartbeats 8000000 in
theorem texts_law (lv : Value) (op a b : Int) (zs : List Int) (t fv me g e : Value) (st : Int) (d : Value) (m : ModP) (t' fv' me' g' e' : Value) (st' : Int) (d' : Value) (n : ModP) (w : World) (hE : MEnv w) (hP : PowEnv w) (hl : IntsAt w lv zs) (ho : InsOk ⟨op, a, b, zs⟩) (hM : ModAt w t fv me g e st d m) (hO : ModOk m) (hN : ModAt w t' fv' me' g' e' st' d' n) (hO' : ModOk n) :
    Calls Tryz.prog 4 #[.agg #[.int .i64 op, .int .i64 a, .int .i64 b, lv], modV t fv me g e st d, modV t' fv' me' g' e' st' d'] w fun en w' => en = .returned (.bool true) ∧ Below w.heap.size w w' := by
  have HMA := Lib.hid hM
  have HMB := Lib.hid hN
  obtain ⟨ta, tc, rfl, _, _⟩ := hM.types.form
  obtain ⟨fa, fc, rfl, _, _⟩ := hM.funcs.form
  obtain ⟨ma, mc, rfl, _, _⟩ := hM.memory.form
  obtain ⟨ga, gc, rfl, _, _⟩ := hM.globals.form
  obtain ⟨ea, ec, rfl, _, _⟩ := hM.exports.form
  obtain ⟨da, dc, rfl, _, _⟩ := hM.data.form
  obtain ⟨tb, td, rfl, _, _⟩ := hN.types.form
  obtain ⟨fb, fd, rfl, _, _⟩ := hN.funcs.form
  obtain ⟨mb, md, rfl, _, _⟩ := hN.memory.form
  obtain ⟨gb, gd, rfl, _, _⟩ := hN.globals.form
  obtain ⟨eb, ed, rfl, _, _⟩ := hN.exports.form
  obtain ⟨db, dd, rfl, _, _⟩ := hN.data.form
  obtain rfl : st = m.start := hM.start
  obtain rfl : st' = n.start := hN.start
  obtain ⟨lva, lvc, rfl⟩ := intsAt_form hl
  have HIL := Lib.hid hl
  have HOI := Lib.hid ho
  clear hM hN hl ho
  obtain ⟨S, hS⟩ : ∃ S, (textI op a b zs).getD ⟨#[]⟩ = S := ⟨_, rfl⟩
  obtain ⟨Z, hZ⟩ : ∃ Z, (textI op a b zs).isSome = Z := ⟨_, rfl⟩
  obtain ⟨E, hEE⟩ : ∃ E, sameM m n = E := ⟨_, rfl⟩
  have K1 := Lib.hid (show CaV w 12 #[.agg #[.int .i64 op, .int .i64 a, .int .i64 b, .slice lva zs.length lvc]] (.tuple #[.string S, .bool Z]) from fun W hW => by rw [← hS, ← hZ]; exact text_any op a b zs _ W (hE.later hW).op (hP.later hW) (intsAt_later HIL.out hW) HOI.out)
  have K2 := Lib.hid (show CaV w 13 #[.agg #[.int .i64 op, .int .i64 a, .int .i64 b, .slice lva zs.length lvc]] (.tuple #[.string S, .bool Z]) from fun W hW => by rw [← hS, ← hZ]; exact rtextI_any op a b zs _ W (intsAt_later HIL.out hW) HOI.out)
  have K3 := Lib.hid (show CaV w 14 #[.agg #[.slice ta m.types.length tc, .slice fa m.funcs.length fc, .slice ma m.memory.length mc, .slice ga m.globals.length gc, .slice ea m.exports.length ec, .int .i64 m.start, .slice da m.data.length dc], .agg #[.slice tb n.types.length td, .slice fb n.funcs.length fd, .slice mb n.memory.length md, .slice gb n.globals.length gd, .slice eb n.exports.length ed, .int .i64 n.start, .slice db n.data.length dd]] (.bool E) from fun W hW => by rw [← hEE]; exact sameM_any _ _ _ _ _ _ _ _ _ _ _ _ _ _ m n W (HMA.out.later hW) (HMB.out.later hW) (fun x hx y hy => by have h9 := ((hO.funcs x hx).code y hy).len; omega) (fun x hx y hy => by have h9 := ((hO'.funcs x hx).code y hy).len; omega))
  have K4 := Lib.hid (show CaV w 15 #[.agg #[.slice ta m.types.length tc, .slice fa m.funcs.length fc, .slice ma m.memory.length mc, .slice ga m.globals.length gc, .slice ea m.exports.length ec, .int .i64 m.start, .slice da m.data.length dc], .agg #[.slice tb n.types.length td, .slice fb n.funcs.length fd, .slice mb n.memory.length md, .slice gb n.globals.length gd, .slice eb n.exports.length ed, .int .i64 n.start, .slice db n.data.length dd]] (.bool E) from fun W hW => rsameM_any _ _ _ _ _ _ _ m _ _ _ _ _ _ _ n W (HMA.out.later hW) (HMB.out.later hW) hO hO' E hEE)
  clear hS hZ hEE
  obtain ⟨W1, hW1⟩ : ∃ W1, ((w.alloc (.cells #[.int .i64 op, .int .i64 a, .int .i64 b, .slice lva zs.length lvc] 40)).alloc (.cells #[.slice ta m.types.length tc, .slice fa m.funcs.length fc, .slice ma m.memory.length mc, .slice ga m.globals.length gc, .slice ea m.exports.length ec, .int .i64 m.start, .slice da m.data.length dc] 29)).alloc (.cells #[.slice tb n.types.length td, .slice fb n.funcs.length fd, .slice mb n.memory.length md, .slice gb n.globals.length gd, .slice eb n.exports.length ed, .int .i64 n.start, .slice db n.data.length dd] 29) = W1 := ⟨_, rfl⟩
  have BOX := Lib.hid (show Below w.heap.size w W1 by rw [← hW1]; exact (((Below.refl _ _).alloc (Nat.le_refl _) _).alloc (by simp) _).alloc (by simp; omega) _)
  have s1 : (w.alloc (.cells #[.int .i64 op, .int .i64 a, .int .i64 b, .slice lva zs.length lvc] 40)).heap.size = w.heap.size + 1 := by simp
  have s2 : ((w.alloc (.cells #[.int .i64 op, .int .i64 a, .int .i64 b, .slice lva zs.length lvc] 40)).alloc (.cells #[.slice ta m.types.length tc, .slice fa m.funcs.length fc, .slice ma m.memory.length mc, .slice ga m.globals.length gc, .slice ea m.exports.length ec, .int .i64 m.start, .slice da m.data.length dc] 29)).heap.size = w.heap.size + 2 := by simp
  have z2 := heap_alloc_new ((w.alloc (.cells #[.int .i64 op, .int .i64 a, .int .i64 b, .slice lva zs.length lvc] 40)).alloc (.cells #[.slice ta m.types.length tc, .slice fa m.funcs.length fc, .slice ma m.memory.length mc, .slice ga m.globals.length gc, .slice ea m.exports.length ec, .int .i64 m.start, .slice da m.data.length dc] 29)) (.cells #[.slice tb n.types.length td, .slice fb n.funcs.length fd, .slice mb n.memory.length md, .slice gb n.globals.length gd, .slice eb n.exports.length ed, .int .i64 n.start, .slice db n.data.length dd] 29)
  have z1 := boxm_later ((Below.refl _ ((w.alloc (.cells #[.int .i64 op, .int .i64 a, .int .i64 b, .slice lva zs.length lvc] 40)).alloc (.cells #[.slice ta m.types.length tc, .slice fa m.funcs.length fc, .slice ma m.memory.length mc, .slice ga m.globals.length gc, .slice ea m.exports.length ec, .int .i64 m.start, .slice da m.data.length dc] 29))).alloc (Nat.le_refl _) (.cells #[.slice tb n.types.length td, .slice fb n.funcs.length fd, .slice mb n.memory.length md, .slice gb n.globals.length gd, .slice eb n.exports.length ed, .int .i64 n.start, .slice db n.data.length dd] 29)) (heap_alloc_new (w.alloc (.cells #[.int .i64 op, .int .i64 a, .int .i64 b, .slice lva zs.length lvc] 40)) (.cells #[.slice ta m.types.length tc, .slice fa m.funcs.length fc, .slice ma m.memory.length mc, .slice ga m.globals.length gc, .slice ea m.exports.length ec, .int .i64 m.start, .slice da m.data.length dc] 29))
  have z0 := boxm_later ((Below.refl _ ((w.alloc (.cells #[.int .i64 op, .int .i64 a, .int .i64 b, .slice lva zs.length lvc] 40)).alloc (.cells #[.slice ta m.types.length tc, .slice fa m.funcs.length fc, .slice ma m.memory.length mc, .slice ga m.globals.length gc, .slice ea m.exports.length ec, .int .i64 m.start, .slice da m.data.length dc] 29))).alloc (Nat.le_refl _) (.cells #[.slice tb n.types.length td, .slice fb n.funcs.length fd, .slice mb n.memory.length md, .slice gb n.globals.length gd, .slice eb n.exports.length ed, .int .i64 n.start, .slice db n.data.length dd] 29)) (boxm_later ((Below.refl _ (w.alloc (.cells #[.int .i64 op, .int .i64 a, .int .i64 b, .slice lva zs.length lvc] 40))).alloc (Nat.le_refl _) (.cells #[.slice ta m.types.length tc, .slice fa m.funcs.length fc, .slice ma m.memory.length mc, .slice ga m.globals.length gc, .slice ea m.exports.length ec, .int .i64 m.start, .slice da m.data.length dc] 29)) (heap_alloc_new w (.cells #[.int .i64 op, .int .i64 a, .int .i64 b, .slice lva zs.length lvc] 40)))
  rw [s1, hW1] at z1
  rw [s2, hW1] at z2
  rw [hW1] at z0
  have i0 := boxm_at z0 0 _ rfl
  have i1 := boxm_at z0 1 _ rfl
  have i2 := boxm_at z0 2 _ rfl
  have i3 := boxm_at z0 3 _ rfl
  have q0 := boxm_at z1 0 _ rfl
  have p0 := boxm_at z2 0 _ rfl
  have q1 := boxm_at z1 1 _ rfl
  have p1 := boxm_at z2 1 _ rfl
  have q2 := boxm_at z1 2 _ rfl
  have p2 := boxm_at z2 2 _ rfl
  have q3 := boxm_at z1 3 _ rfl
  have p3 := boxm_at z2 3 _ rfl
  have q4 := boxm_at z1 4 _ rfl
  have p4 := boxm_at z2 4 _ rfl
  have q5 := boxm_at z1 5 _ rfl
  have p5 := boxm_at z2 5 _ rfl
  have q6 := boxm_at z1 6 _ rfl
  have p6 := boxm_at z2 6 _ rfl
  clear s1 s2 z0 z1 z2
  have HEX := Lib.hid (examples04 _ (hE.later BOX.out) (hP.later BOX.out))
  have HW1 := Lib.hid hW1
  have hss : (S.toList == S.toList) = true := by simp
  clear hE hP hW1 hO hO'
  unfold modV
  go_enter Tryz.func4, Tryz.ntmps4
  go_upto_region 1 with fail
  rw [HW1.out]
  go_wp2_with fail
  refine HEX.out.mono ?_
  rintro en w2 ⟨rfl, e2⟩
  replace i0 := cell_later e2 i0
  replace i1 := cell_later e2 i1
  replace i2 := cell_later e2 i2
  replace i3 := cell_later e2 i3
  replace q0 := cell_later e2 q0
  replace q1 := cell_later e2 q1
  replace q2 := cell_later e2 q2
  replace q3 := cell_later e2 q3
  replace q4 := cell_later e2 q4
  replace q5 := cell_later e2 q5
  replace q6 := cell_later e2 q6
  replace p0 := cell_later e2 p0
  replace p1 := cell_later e2 p1
  replace p2 := cell_later e2 p2
  replace p3 := cell_later e2 p3
  replace p4 := cell_later e2 p4
  replace p5 := cell_later e2 p5
  replace p6 := cell_later e2 p6
  have C2 := Lib.hid (BOX.out.trans (e2.mono BOX.out.size))
  clear e2
  go_wp2_with fail
  refine (K1.out _ C2.out).mono ?_
  rintro en w3 ⟨rfl, e3⟩
  replace i0 := cell_later e3 i0
  replace i1 := cell_later e3 i1
  replace i2 := cell_later e3 i2
  replace i3 := cell_later e3 i3
  replace q0 := cell_later e3 q0
  replace q1 := cell_later e3 q1
  replace q2 := cell_later e3 q2
  replace q3 := cell_later e3 q3
  replace q4 := cell_later e3 q4
  replace q5 := cell_later e3 q5
  replace q6 := cell_later e3 q6
  replace p0 := cell_later e3 p0
  replace p1 := cell_later e3 p1
  replace p2 := cell_later e3 p2
  replace p3 := cell_later e3 p3
  replace p4 := cell_later e3 p4
  replace p5 := cell_later e3 p5
  replace p6 := cell_later e3 p6
  have C3 := Lib.hid (C2.out.trans (e3.mono C2.out.size))
  clear e3
  go_wp2_with fail
  refine (K2.out _ C3.out).mono ?_
  rintro en w4 ⟨rfl, e4⟩
  replace q0 := cell_later e4 q0
  replace q1 := cell_later e4 q1
  replace q2 := cell_later e4 q2
  replace q3 := cell_later e4 q3
  replace q4 := cell_later e4 q4
  replace q5 := cell_later e4 q5
  replace q6 := cell_later e4 q6
  replace p0 := cell_later e4 p0
  replace p1 := cell_later e4 p1
  replace p2 := cell_later e4 p2
  replace p3 := cell_later e4 p3
  replace p4 := cell_later e4 p4
  replace p5 := cell_later e4 p5
  replace p6 := cell_later e4 p6
  have C4 := Lib.hid (C3.out.trans (e4.mono C3.out.size))
  clear e4
  go_upto_region 6 with fail
  have HZ := Lib.hid (show HeldT2 w ta fa ma ga ea da tb fb mb gb eb db tc fc mc gc ec dc td fd md gd ed dd m n w4.drew from ⟨q0, q1, q2, q3, q4, q5, q6, p0, p1, p2, p3, p4, p5, p6, C4.out.drew⟩)
  clear i0 i1 i2 i3 q0 q1 q2 q3 q4 q5 q6 p0 p1 p2 p3 p4 p5 p6
  refine wp_region_held_drew (S := fun W => HeldT2 w ta fa ma ga ea da tb fb mb gb eb db tc fc mc gc ec dc td fd md gd ed dd m n W) (by kernel_rfl) HZ.out (fun hHeld => ?_)
  refine take_yes (i := 0) (d := (some 25)) (v := ?_) rfl (by kernel_rfl) (by kernel_rfl) (by kernel_rfl) rfl (fun _ _ _ h => h) (by rfl) (by assumption) ?_ ?_
  rotate_left
  · (intro w hSw; (try dsimp only at hSw); go_simp; try with_reducible rfl)
  try simp only [Act.put, List.setIfInBounds_toArray, List.set_cons_zero, List.set_cons_succ]
  refine take_yes (i := 1) (d := (some 26)) (v := ?_) rfl (by kernel_rfl) (by kernel_rfl) (by kernel_rfl) rfl (fun _ _ _ h => h) (by rfl) (by assumption) ?_ ?_
  rotate_left
  · (intro w hSw; (try dsimp only at hSw); go_simp; try with_reducible rfl)
  try simp only [Act.put, List.setIfInBounds_toArray, List.set_cons_zero, List.set_cons_succ]
  refine take_yes (i := 2) (d := (some 27)) (v := ?_) rfl (by kernel_rfl) (by kernel_rfl) (by kernel_rfl) rfl (fun _ _ _ h => h) (by rfl) (by assumption) ?_ ?_
  rotate_left
  · (intro w hSw; (try dsimp only at hSw); go_simp; try with_reducible rfl)
  try simp only [Act.put, List.setIfInBounds_toArray, List.set_cons_zero, List.set_cons_succ]
  refine take_yes (i := 3) (d := (some 28)) (v := ?_) rfl (by kernel_rfl) (by kernel_rfl) (by kernel_rfl) rfl (fun _ _ _ h => h) (by rfl) (by assumption) ?_ ?_
  rotate_left
  · (intro w hSw; (try dsimp only at hSw); go_simp; try with_reducible rfl)
  try simp only [Act.put, List.setIfInBounds_toArray, List.set_cons_zero, List.set_cons_succ]
  refine take_yes (i := 4) (d := (some 29)) (v := ?_) rfl (by kernel_rfl) (by kernel_rfl) (by kernel_rfl) rfl (fun _ _ _ h => h) (by rfl) (by assumption) ?_ ?_
  rotate_left
  · (intro w hSw; (try dsimp only at hSw); go_simp; try with_reducible rfl)
  try simp only [Act.put, List.setIfInBounds_toArray, List.set_cons_zero, List.set_cons_succ]
  refine take_yes (i := 5) (d := (some 30)) (v := ?_) rfl (by kernel_rfl) (by kernel_rfl) (by kernel_rfl) rfl (fun _ _ _ h => h) (by rfl) (by assumption) ?_ ?_
  rotate_left
  · (intro w hSw; (try dsimp only at hSw); go_simp; try with_reducible rfl)
  try simp only [Act.put, List.setIfInBounds_toArray, List.set_cons_zero, List.set_cons_succ]
  refine take_yes (i := 6) (d := (some 31)) (v := ?_) rfl (by kernel_rfl) (by kernel_rfl) (by kernel_rfl) rfl (fun _ _ _ h => h) (by rfl) (by assumption) ?_ ?_
  rotate_left
  · (intro w hSw; (try dsimp only at hSw); go_simp; try with_reducible rfl)
  try simp only [Act.put, List.setIfInBounds_toArray, List.set_cons_zero, List.set_cons_succ]
  refine take_yes (i := 7) (d := (some 32)) (v := ?_) rfl (by kernel_rfl) (by kernel_rfl) (by kernel_rfl) rfl (fun _ _ _ h => h) (by rfl) (by assumption) ?_ ?_
  rotate_left
  · (intro w hSw; (try dsimp only at hSw); go_simp; try with_reducible rfl)
  try simp only [Act.put, List.setIfInBounds_toArray, List.set_cons_zero, List.set_cons_succ]
  refine take_yes (i := 8) (d := (some 33)) (v := ?_) rfl (by kernel_rfl) (by kernel_rfl) (by kernel_rfl) rfl (fun _ _ _ h => h) (by rfl) (by assumption) ?_ ?_
  rotate_left
  · (intro w hSw; (try dsimp only at hSw); go_simp; try with_reducible rfl)
  try simp only [Act.put, List.setIfInBounds_toArray, List.set_cons_zero, List.set_cons_succ]
  refine take_yes (i := 9) (d := (some 34)) (v := ?_) rfl (by kernel_rfl) (by kernel_rfl) (by kernel_rfl) rfl (fun _ _ _ h => h) (by rfl) (by assumption) ?_ ?_
  rotate_left
  · (intro w hSw; (try dsimp only at hSw); go_simp; try with_reducible rfl)
  try simp only [Act.put, List.setIfInBounds_toArray, List.set_cons_zero, List.set_cons_succ]
  refine take_yes (i := 10) (d := (some 35)) (v := ?_) rfl (by kernel_rfl) (by kernel_rfl) (by kernel_rfl) rfl (fun _ _ _ h => h) (by rfl) (by assumption) ?_ ?_
  rotate_left
  · (intro w hSw; (try dsimp only at hSw); go_simp; try with_reducible rfl)
  try simp only [Act.put, List.setIfInBounds_toArray, List.set_cons_zero, List.set_cons_succ]
  refine take_yes (i := 11) (d := (some 36)) (v := ?_) rfl (by kernel_rfl) (by kernel_rfl) (by kernel_rfl) rfl (fun _ _ _ h => h) (by rfl) (by assumption) ?_ ?_
  rotate_left
  · (intro w hSw; (try dsimp only at hSw); go_simp; try with_reducible rfl)
  try simp only [Act.put, List.setIfInBounds_toArray, List.set_cons_zero, List.set_cons_succ]
  refine take_yes (i := 12) (d := (some 37)) (v := ?_) rfl (by kernel_rfl) (by kernel_rfl) (by kernel_rfl) rfl (fun _ _ _ h => h) (by rfl) (by assumption) ?_ ?_
  rotate_left
  · (intro w hSw; (try dsimp only at hSw); go_simp; try with_reducible rfl)
  try simp only [Act.put, List.setIfInBounds_toArray, List.set_cons_zero, List.set_cons_succ]
  refine take_yes (i := 13) (d := (some 38)) (v := ?_) rfl (by kernel_rfl) (by kernel_rfl) (by kernel_rfl) rfl (fun _ _ _ h => h) (by rfl) (by assumption) ?_ ?_
  rotate_left
  · (intro w hSw; (try dsimp only at hSw); go_simp; try with_reducible rfl)
  try simp only [Act.put, List.setIfInBounds_toArray, List.set_cons_zero, List.set_cons_succ]
  refine take_yes (i := 15) (d := (some 40)) (v := ?_) rfl (by kernel_rfl) (by kernel_rfl) (by kernel_rfl) rfl (fun _ _ _ h => h) (by rfl) (by assumption) ?_ ?_
  rotate_left
  · (intro w hSw; (try dsimp only at hSw); go_simp; try with_reducible rfl)
  try simp only [Act.put, List.setIfInBounds_toArray, List.set_cons_zero, List.set_cons_succ]
  refine take_yes (i := 16) (d := (some 41)) (v := ?_) rfl (by kernel_rfl) (by kernel_rfl) (by kernel_rfl) rfl (fun _ _ _ h => h) (by rfl) (by assumption) ?_ ?_
  rotate_left
  · (intro w hSw; (try dsimp only at hSw); go_simp; try with_reducible rfl)
  try simp only [Act.put, List.setIfInBounds_toArray, List.set_cons_zero, List.set_cons_succ]
  refine wpAnyH_ready (rs := [14]) (by kernel_rfl) (by simp) ?_
  refine AllReadyH.cons (o := _) rfl (fun K hK => ?_) AllReadyH.nil
  go_simp
  go_at_call 14
  refine (K3.out _ (HeldT2.below hHeld)).mono ?_
  rintro en W2 ⟨rfl, c2⟩
  go_wp2_with fail
  refine hK.out _ _ (heldT2_later c2 hHeld) (fun hHeld => ?_)
  clear c2
  clear hK K
  try simp only [Act.put, List.setIfInBounds_toArray, List.set_cons_zero, List.set_cons_succ]
  refine wpAnyH_ready (rs := [17]) (by kernel_rfl) (by simp) ?_
  refine AllReadyH.cons (o := _) rfl (fun K hK => ?_) AllReadyH.nil
  go_simp
  go_at_call 15
  refine (K4.out _ (HeldT2.below hHeld)).mono ?_
  rintro en W2 ⟨rfl, c2⟩
  go_wp2_with fail
  refine hK.out _ _ (heldT2_later c2 hHeld) (fun hHeld => ?_)
  clear c2
  clear hK K
  try simp only [Act.put, List.setIfInBounds_toArray, List.set_cons_zero, List.set_cons_succ]
  refine take_yes (i := 18) (d := (some 43)) (v := ?_) rfl (by kernel_rfl) (by kernel_rfl) (by kernel_rfl) rfl (fun _ _ _ h => h) (by rfl) (by assumption) ?_ ?_
  rotate_left
  · (intro w hSw; (try dsimp only at hSw); go_simp; try with_reducible rfl)
  try simp only [Act.put, List.setIfInBounds_toArray, List.set_cons_zero, List.set_cons_succ]
  refine take_yes (i := 19) (d := (some 44)) (v := ?_) rfl (by kernel_rfl) (by kernel_rfl) (by kernel_rfl) rfl (fun _ _ _ h => h) (by rfl) (by assumption) ?_ ?_
  rotate_left
  · (intro w hSw; (try dsimp only at hSw); go_simp; try with_reducible rfl)
  try simp only [Act.put, List.setIfInBounds_toArray, List.set_cons_zero, List.set_cons_succ]
  refine take_yes (i := 20) (d := (some 6)) (v := ?_) rfl (by kernel_rfl) (by kernel_rfl) (by kernel_rfl) rfl (fun _ _ _ h => h) (by rfl) (by assumption) ?_ ?_
  rotate_left
  · (intro w hSw; (try dsimp only at hSw); go_simp; try with_reducible rfl)
  try simp only [Act.put, List.setIfInBounds_toArray, List.set_cons_zero, List.set_cons_succ]
  refine wpAnyH_done (by kernel_rfl) ?_ _
  go_wp2_with fail
  go_ret
  exact ⟨by simp, HeldT2.below hHeld⟩
end Go.Proofs.YtkemaonhchklmaaGreatDoor.Mod
