/-
  What the reader's instr reads, and Instr. No condition beyond what each theorem names.
-/
import Derived.Test.YteidhccnbfikcaaGreatDoorDeB
import Derived.Test.YteidhccnbfikcaaGreatDoorDeP
namespace Go.Proofs.YteidhccnbfikcaaGreatDoor.Dec
open Go.RowKit Go.Maps Go.Proofs.YteidhccnbfikcaaGreatDoor.Op Go.Proofs.YteidhccnbfikcaaGreatDoor.Mod Go.Proofs.YteidhccnbfikcaaGreatDoor.Leb Go.Proofs.YteidhccnbfikcaaGreatDoor.Enc
set_option linter.unusedVariables false
set_option linter.unusedSimpArgs false
variable {w0 w w' W W' : World} {rb mb : Nat} {s : ByteArray} {r r' : RS}
set_option maxRecDepth 100000 in
set_option maxHeartbeats 4000000 in
theorem ri_s6z (h : Rd w0 w rb mb s r) {B : Nat} {q : RS} (hb : oneP s.data.toList r = (B, q)) (hB : B < 256) (hfl : floatB (B : Int) = false) (h17 : B ≠ 17) (nm ps rs : ByteArray) (hi : (opInfo (B : Int)).getD zeroI = ⟨nm, 6, ps, rs⟩) (hsm : (opInfo (B : Int)).isSome = true) (hq : q.e = 0) {T : Nat} {q1 Q : RS} (hT : oneP s.data.toList q = (T, q1)) (hT0 : T = 0) (hQ : failP (T != 0) 2 q1 = Q) :
    Calls Tryz.prog 89 #[.pointer (some ⟨rb, 0, none⟩)] w (GotI w0 w rb mb s ⟨(B : Int), 0, 0, []⟩ Q) := by
  have hz : ((T : Int) != 0) = false := by rw [hT0]; rfl
  have hz2 : ((T : Int) == 0) = true := by rw [hT0]; rfl
  have HQ := Lib.hid (show failP false 2 q1 = Q by rw [← hQ, show (T != 0) = false by rw [hT0]; rfl])
  have HT := Lib.hid hT
  clear hT hQ hT0
  have hq17 : ((B : Int) == 17) = false := beq_eq_false_iff_ne.2 (by omega)
  have HQE := Lib.hid hq
  clear h17 hq
  have X1 := Lib.hid (XI.new h #[.int .i64 0, .int .i64 0, .int .i64 0, .slice none 0 0])
  have HONE := Lib.hid (rd_one X1.out.rd hb)
  have hwb := wbyte hB
  have HB := Lib.hid hB
  have HI := Lib.hid hi
  have HS := Lib.hid hsm
  clear h hb hB hi hsm
  go_enter Tryz.func89, Tryz.ntmps89
  go_upto_region 1 with fail
  obtain ⟨W1, hW1⟩ : ∃ W1, w.alloc (.cells #[.int .i64 0, .int .i64 0, .int .i64 0, .slice none 0 0] 33) = W1 := ⟨_, rfl⟩
  rw [hW1] at HONE X1 ⊢
  clear hW1
  go_wp2_with fail
  refine HONE.out.mono ?_
  rintro e w2 ⟨rfl, h2, k2⟩
  have X2 := Lib.hid (X1.out.step h2 k2)
  clear h2 k2
  go_wp2_with fail
  refine (float_any (B : Int) w2).mono ?_
  rintro e w3 ⟨rfl, c3⟩
  have X3 := Lib.hid (X2.out.later c3)
  clear c3
  rw [hfl]
  go_wp2_with fail
  refine (rd_fail X3.out.rd false 3).mono ?_
  rintro e w4 ⟨rfl, h4, k4⟩
  have X4 := Lib.hid (X3.out.step h4 k4)
  clear h4 k4
  go_wp2_with fail
  refine (rd_info X4.out.rd HB.out nm 6 ps rs true HI.out HS.out).mono ?_
  rintro e w5 ⟨rfl, h5, k5⟩
  have X5 := Lib.hid (X4.out.step h5 k5)
  clear h5 k5
  go_upto_region 4 with fail
  obtain ⟨W6, hW6⟩ : ∃ W6, w5.alloc (.cells #[.string nm, .int .i64 6, .string ps, .string rs] 90) = W6 := ⟨_, rfl⟩
  have B6 : Below w5.heap.size w5 W6 := by rw [← hW6]; exact (Below.refl _ _).alloc (Nat.le_refl _) _
  have i1 := cell_of_row W6 _ 1 _ _ _ (show W6.heap[w5.heap.size]? = some (.cells #[.string nm, .int .i64 6, .string ps, .string rs] 90 (0, 0)) by rw [← hW6]; exact heap_alloc_new _ _)
  have X6 := Lib.hid (X5.out.later B6)
  have z6 : w5.heap.size < W6.heap.size := by rw [← hW6]; simp
  have n6 : w.heap.size < w5.heap.size := X5.out.size
  rw [hW6]
  clear hW6 B6
  go_wp2_with fail
  refine (rd_fail X6.out.rd (!true) 2).mono ?_
  rintro e w7 ⟨rfl, h7, k7⟩
  have X7 := Lib.hid (X6.out.step h7 k7)
  replace i1 := k7.cell i1 (fun e => by have := X5.out.lt; rcases e with e | e <;> (dsimp only at e; omega))
  rw [show failP (!true) 2 (failP false 3 q) = q by rw [Bool.not_true, fail_ok, fail_ok]] at X7
  clear h7 k7
  have c2 := X7.out.rd.rd.c2
  rw [HQE.out] at c2
  have f0 := X7.out.fz 0
  have t0 := X7.out.cell 0 (.int .i64 0) rfl
  have X8 := Lib.hid (X7.out.set 0 (.int .i64 (B : Int)))
  replace i1 : (w7.setCell ⟨w.heap.size, 0, none⟩ (.int .i64 (B : Int))).cell? ⟨w5.heap.size, 1, none⟩ = _ := (Keeps.setCell (F := fun j => j = w.heap.size) w7 ⟨w.heap.size, 0, none⟩ (.int .i64 (B : Int)) rfl).cell i1 (by show ¬ w5.heap.size = w.heap.size; omega)
  obtain ⟨W8, hW8⟩ : ∃ W8, w7.setCell ⟨w.heap.size, 0, none⟩ (.int .i64 (B : Int)) = W8 := ⟨_, rfl⟩
  rw [hW8] at X8 i1
  have HW8 := Lib.hid hW8
  clear hW8
  go_upto_region 8 with fail
  rw [HW8.out]
  clear c2 f0 t0
  go_wp2_with fail
  refine (rd_one X8.out.rd HT.out).mono ?_
  rintro e w9 ⟨rfl, h9, k9⟩
  have X9 := Lib.hid (X8.out.step h9 k9)
  clear h9 k9
  go_wp2_with fail
  refine (rd_fail X9.out.rd false 2).mono ?_
  rintro e w10 ⟨rfl, h10, k10⟩
  have X10 := Lib.hid (X9.out.step h10 k10)
  clear h10 k10
  rw [HQ.out] at X10
  have f0 := X10.out.fz 0
  have f1 := X10.out.fz 1
  have f2 := X10.out.fz 2
  have f3 := X10.out.fz 3
  have t0 := X10.out.cell 0 (.int .i64 (B : Int)) rfl
  have t1 := X10.out.cell 1 (.int .i64 0) rfl
  have t2 := X10.out.cell 2 (.int .i64 0) rfl
  have t3 := X10.out.cell 3 (.slice none 0 0) rfl
  have X20 := Lib.hid ((((X10.out.set 0 (.int .i64 (B : Int))).set 1 (.int .i64 0)).set 2 (.int .i64 0)).set 3 (.slice none 0 0))
  obtain ⟨W20, hW20⟩ : ∃ W20, (((w10.setCell ⟨w.heap.size, 0, none⟩ (.int .i64 (B : Int))).setCell ⟨w.heap.size, 1, none⟩ (.int .i64 0)).setCell ⟨w.heap.size, 2, none⟩ (.int .i64 0)).setCell ⟨w.heap.size, 3, none⟩ (.slice none 0 0) = W20 := ⟨_, rfl⟩
  rw [hW20] at X20
  have HW20 := Lib.hid hW20
  clear hW20
  have r0 : W20.cell? ⟨w.heap.size, 0, none⟩ = some (.int .i64 (B : Int)) := X20.out.cell 0 _ rfl
  have r1 : W20.cell? ⟨w.heap.size, 1, none⟩ = some (.int .i64 0) := X20.out.cell 1 _ rfl
  have r2 : W20.cell? ⟨w.heap.size, 2, none⟩ = some (.int .i64 0) := X20.out.cell 2 _ rfl
  have r3 : W20.cell? ⟨w.heap.size, 3, none⟩ = some (.slice none 0 0) := X20.out.cell 3 _ rfl
  go_wp2_with fail
  rw [HW20.out]
  (try simp only [Exit.inBlock, Exit.then])
  refine bodyPost_ret (v := .agg #[.int .i64 (B : Int), .int .i64 0, .int .i64 0, .slice none 0 0]) (by simp [results, Tryz.results89, go_sem, r0, r1, r2, r3]) rfl ?_
  exact ⟨_, rfl, own_nil _ _ _ _, Nat.zero_le _, X20.out.rd, X20.out.keep⟩
set_option maxRecDepth 100000 in
set_option maxHeartbeats 4000000 in
theorem ri_s6n (h : Rd w0 w rb mb s r) {B : Nat} {q : RS} (hb : oneP s.data.toList r = (B, q)) (hB : B < 256) (hfl : floatB (B : Int) = false) (h17 : B ≠ 17) (nm ps rs : ByteArray) (hi : (opInfo (B : Int)).getD zeroI = ⟨nm, 6, ps, rs⟩) (hsm : (opInfo (B : Int)).isSome = true) (hq : q.e = 0) {T : Nat} {q1 Q : RS} (hT : oneP s.data.toList q = (T, q1)) (hT0 : T ≠ 0) (hQ : failP (T != 0) 2 q1 = Q) :
    Calls Tryz.prog 89 #[.pointer (some ⟨rb, 0, none⟩)] w (GotI w0 w rb mb s ⟨(B : Int), 0, 0, []⟩ Q) := by
  have hz : ((T : Int) != 0) = true := bne_iff_ne.2 (by omega)
  have hz2 : ((T : Int) == 0) = false := by exact beq_eq_false_iff_ne.2 (by omega)
  have HQ := Lib.hid (show failP true 2 q1 = Q by rw [← hQ, show (T != 0) = true by exact bne_iff_ne.2 hT0])
  have HT := Lib.hid hT
  clear hT hQ hT0
  have hq17 : ((B : Int) == 17) = false := beq_eq_false_iff_ne.2 (by omega)
  have HQE := Lib.hid hq
  clear h17 hq
  have X1 := Lib.hid (XI.new h #[.int .i64 0, .int .i64 0, .int .i64 0, .slice none 0 0])
  have HONE := Lib.hid (rd_one X1.out.rd hb)
  have hwb := wbyte hB
  have HB := Lib.hid hB
  have HI := Lib.hid hi
  have HS := Lib.hid hsm
  clear h hb hB hi hsm
  go_enter Tryz.func89, Tryz.ntmps89
  go_upto_region 1 with fail
  obtain ⟨W1, hW1⟩ : ∃ W1, w.alloc (.cells #[.int .i64 0, .int .i64 0, .int .i64 0, .slice none 0 0] 33) = W1 := ⟨_, rfl⟩
  rw [hW1] at HONE X1 ⊢
  clear hW1
  go_wp2_with fail
  refine HONE.out.mono ?_
  rintro e w2 ⟨rfl, h2, k2⟩
  have X2 := Lib.hid (X1.out.step h2 k2)
  clear h2 k2
  go_wp2_with fail
  refine (float_any (B : Int) w2).mono ?_
  rintro e w3 ⟨rfl, c3⟩
  have X3 := Lib.hid (X2.out.later c3)
  clear c3
  rw [hfl]
  go_wp2_with fail
  refine (rd_fail X3.out.rd false 3).mono ?_
  rintro e w4 ⟨rfl, h4, k4⟩
  have X4 := Lib.hid (X3.out.step h4 k4)
  clear h4 k4
  go_wp2_with fail
  refine (rd_info X4.out.rd HB.out nm 6 ps rs true HI.out HS.out).mono ?_
  rintro e w5 ⟨rfl, h5, k5⟩
  have X5 := Lib.hid (X4.out.step h5 k5)
  clear h5 k5
  go_upto_region 4 with fail
  obtain ⟨W6, hW6⟩ : ∃ W6, w5.alloc (.cells #[.string nm, .int .i64 6, .string ps, .string rs] 90) = W6 := ⟨_, rfl⟩
  have B6 : Below w5.heap.size w5 W6 := by rw [← hW6]; exact (Below.refl _ _).alloc (Nat.le_refl _) _
  have i1 := cell_of_row W6 _ 1 _ _ _ (show W6.heap[w5.heap.size]? = some (.cells #[.string nm, .int .i64 6, .string ps, .string rs] 90 (0, 0)) by rw [← hW6]; exact heap_alloc_new _ _)
  have X6 := Lib.hid (X5.out.later B6)
  have z6 : w5.heap.size < W6.heap.size := by rw [← hW6]; simp
  have n6 : w.heap.size < w5.heap.size := X5.out.size
  rw [hW6]
  clear hW6 B6
  go_wp2_with fail
  refine (rd_fail X6.out.rd (!true) 2).mono ?_
  rintro e w7 ⟨rfl, h7, k7⟩
  have X7 := Lib.hid (X6.out.step h7 k7)
  replace i1 := k7.cell i1 (fun e => by have := X5.out.lt; rcases e with e | e <;> (dsimp only at e; omega))
  rw [show failP (!true) 2 (failP false 3 q) = q by rw [Bool.not_true, fail_ok, fail_ok]] at X7
  clear h7 k7
  have c2 := X7.out.rd.rd.c2
  rw [HQE.out] at c2
  have f0 := X7.out.fz 0
  have t0 := X7.out.cell 0 (.int .i64 0) rfl
  have X8 := Lib.hid (X7.out.set 0 (.int .i64 (B : Int)))
  replace i1 : (w7.setCell ⟨w.heap.size, 0, none⟩ (.int .i64 (B : Int))).cell? ⟨w5.heap.size, 1, none⟩ = _ := (Keeps.setCell (F := fun j => j = w.heap.size) w7 ⟨w.heap.size, 0, none⟩ (.int .i64 (B : Int)) rfl).cell i1 (by show ¬ w5.heap.size = w.heap.size; omega)
  obtain ⟨W8, hW8⟩ : ∃ W8, w7.setCell ⟨w.heap.size, 0, none⟩ (.int .i64 (B : Int)) = W8 := ⟨_, rfl⟩
  rw [hW8] at X8 i1
  have HW8 := Lib.hid hW8
  clear hW8
  go_upto_region 8 with fail
  rw [HW8.out]
  clear c2 f0 t0
  go_wp2_with fail
  refine (rd_one X8.out.rd HT.out).mono ?_
  rintro e w9 ⟨rfl, h9, k9⟩
  have X9 := Lib.hid (X8.out.step h9 k9)
  clear h9 k9
  go_wp2_with fail
  refine (rd_fail X9.out.rd true 2).mono ?_
  rintro e w10 ⟨rfl, h10, k10⟩
  have X10 := Lib.hid (X9.out.step h10 k10)
  clear h10 k10
  rw [HQ.out] at X10
  have f0 := X10.out.fz 0
  have f1 := X10.out.fz 1
  have f2 := X10.out.fz 2
  have f3 := X10.out.fz 3
  have t0 := X10.out.cell 0 (.int .i64 (B : Int)) rfl
  have t1 := X10.out.cell 1 (.int .i64 0) rfl
  have t2 := X10.out.cell 2 (.int .i64 0) rfl
  have t3 := X10.out.cell 3 (.slice none 0 0) rfl
  have X20 := Lib.hid ((((X10.out.set 0 (.int .i64 (B : Int))).set 1 (.int .i64 0)).set 2 (.int .i64 0)).set 3 (.slice none 0 0))
  obtain ⟨W20, hW20⟩ : ∃ W20, (((w10.setCell ⟨w.heap.size, 0, none⟩ (.int .i64 (B : Int))).setCell ⟨w.heap.size, 1, none⟩ (.int .i64 0)).setCell ⟨w.heap.size, 2, none⟩ (.int .i64 0)).setCell ⟨w.heap.size, 3, none⟩ (.slice none 0 0) = W20 := ⟨_, rfl⟩
  rw [hW20] at X20
  have HW20 := Lib.hid hW20
  clear hW20
  have r0 : W20.cell? ⟨w.heap.size, 0, none⟩ = some (.int .i64 (B : Int)) := X20.out.cell 0 _ rfl
  have r1 : W20.cell? ⟨w.heap.size, 1, none⟩ = some (.int .i64 0) := X20.out.cell 1 _ rfl
  have r2 : W20.cell? ⟨w.heap.size, 2, none⟩ = some (.int .i64 0) := X20.out.cell 2 _ rfl
  have r3 : W20.cell? ⟨w.heap.size, 3, none⟩ = some (.slice none 0 0) := X20.out.cell 3 _ rfl
  go_wp2_with fail
  rw [HW20.out]
  (try simp only [Exit.inBlock, Exit.then])
  refine bodyPost_ret (v := .agg #[.int .i64 (B : Int), .int .i64 0, .int .i64 0, .slice none 0 0]) (by simp [results, Tryz.results89, go_sem, r0, r1, r2, r3]) rfl ?_
  exact ⟨_, rfl, own_nil _ _ _ _, Nat.zero_le _, X20.out.rd, X20.out.keep⟩
set_option maxRecDepth 100000 in
set_option maxHeartbeats 4000000 in
theorem ri_s7a (h : Rd w0 w rb mb s r) {B : Nat} {q : RS} (hb : oneP s.data.toList r = (B, q)) (hB : B < 256) (hfl : floatB (B : Int) = false) (h17 : B ≠ 17) (nm ps rs : ByteArray) (hi : (opInfo (B : Int)).getD zeroI = ⟨nm, 7, ps, rs⟩) (hsm : (opInfo (B : Int)).isSome = true) (hq : q.e = 0) {n : Int} {Q : RS} (h66 : B = 66) (hn : s64P s.data.toList q = (n, Q)) :
    Calls Tryz.prog 89 #[.pointer (some ⟨rb, 0, none⟩)] w (GotI w0 w rb mb s ⟨(B : Int), n, 0, []⟩ Q) := by
  have HN := Lib.hid hn
  have hq66 : ((B : Int) == 66) = true := by rw [h66]; rfl
  clear hn h66
  have hq17 : ((B : Int) == 17) = false := beq_eq_false_iff_ne.2 (by omega)
  have HQE := Lib.hid hq
  clear h17 hq
  have X1 := Lib.hid (XI.new h #[.int .i64 0, .int .i64 0, .int .i64 0, .slice none 0 0])
  have HONE := Lib.hid (rd_one X1.out.rd hb)
  have hwb := wbyte hB
  have HB := Lib.hid hB
  have HI := Lib.hid hi
  have HS := Lib.hid hsm
  clear h hb hB hi hsm
  go_enter Tryz.func89, Tryz.ntmps89
  go_upto_region 1 with fail
  obtain ⟨W1, hW1⟩ : ∃ W1, w.alloc (.cells #[.int .i64 0, .int .i64 0, .int .i64 0, .slice none 0 0] 33) = W1 := ⟨_, rfl⟩
  rw [hW1] at HONE X1 ⊢
  clear hW1
  go_wp2_with fail
  refine HONE.out.mono ?_
  rintro e w2 ⟨rfl, h2, k2⟩
  have X2 := Lib.hid (X1.out.step h2 k2)
  clear h2 k2
  go_wp2_with fail
  refine (float_any (B : Int) w2).mono ?_
  rintro e w3 ⟨rfl, c3⟩
  have X3 := Lib.hid (X2.out.later c3)
  clear c3
  rw [hfl]
  go_wp2_with fail
  refine (rd_fail X3.out.rd false 3).mono ?_
  rintro e w4 ⟨rfl, h4, k4⟩
  have X4 := Lib.hid (X3.out.step h4 k4)
  clear h4 k4
  go_wp2_with fail
  refine (rd_info X4.out.rd HB.out nm 7 ps rs true HI.out HS.out).mono ?_
  rintro e w5 ⟨rfl, h5, k5⟩
  have X5 := Lib.hid (X4.out.step h5 k5)
  clear h5 k5
  go_upto_region 4 with fail
  obtain ⟨W6, hW6⟩ : ∃ W6, w5.alloc (.cells #[.string nm, .int .i64 7, .string ps, .string rs] 90) = W6 := ⟨_, rfl⟩
  have B6 : Below w5.heap.size w5 W6 := by rw [← hW6]; exact (Below.refl _ _).alloc (Nat.le_refl _) _
  have i1 := cell_of_row W6 _ 1 _ _ _ (show W6.heap[w5.heap.size]? = some (.cells #[.string nm, .int .i64 7, .string ps, .string rs] 90 (0, 0)) by rw [← hW6]; exact heap_alloc_new _ _)
  have X6 := Lib.hid (X5.out.later B6)
  have z6 : w5.heap.size < W6.heap.size := by rw [← hW6]; simp
  have n6 : w.heap.size < w5.heap.size := X5.out.size
  rw [hW6]
  clear hW6 B6
  go_wp2_with fail
  refine (rd_fail X6.out.rd (!true) 2).mono ?_
  rintro e w7 ⟨rfl, h7, k7⟩
  have X7 := Lib.hid (X6.out.step h7 k7)
  replace i1 := k7.cell i1 (fun e => by have := X5.out.lt; rcases e with e | e <;> (dsimp only at e; omega))
  rw [show failP (!true) 2 (failP false 3 q) = q by rw [Bool.not_true, fail_ok, fail_ok]] at X7
  clear h7 k7
  have c2 := X7.out.rd.rd.c2
  rw [HQE.out] at c2
  have f0 := X7.out.fz 0
  have t0 := X7.out.cell 0 (.int .i64 0) rfl
  have X8 := Lib.hid (X7.out.set 0 (.int .i64 (B : Int)))
  replace i1 : (w7.setCell ⟨w.heap.size, 0, none⟩ (.int .i64 (B : Int))).cell? ⟨w5.heap.size, 1, none⟩ = _ := (Keeps.setCell (F := fun j => j = w.heap.size) w7 ⟨w.heap.size, 0, none⟩ (.int .i64 (B : Int)) rfl).cell i1 (by show ¬ w5.heap.size = w.heap.size; omega)
  obtain ⟨W8, hW8⟩ : ∃ W8, w7.setCell ⟨w.heap.size, 0, none⟩ (.int .i64 (B : Int)) = W8 := ⟨_, rfl⟩
  rw [hW8] at X8 i1
  have HW8 := Lib.hid hW8
  clear hW8
  go_upto_region 8 with fail
  rw [HW8.out]
  clear c2 f0 t0
  go_wp2_with fail
  refine (rd_s64 X8.out.rd HN.out).mono ?_
  rintro e w9 ⟨rfl, h9, k9⟩
  have X9 := Lib.hid (X8.out.step h9 k9)
  clear h9 k9
  have f1 := X9.out.fz 1
  have t1 := X9.out.cell 1 (.int .i64 0) rfl
  have X10 := Lib.hid (X9.out.set 1 (.int .i64 n))
  obtain ⟨W10, hW10⟩ : ∃ W10, w9.setCell ⟨w.heap.size, 1, none⟩ (.int .i64 n) = W10 := ⟨_, rfl⟩
  rw [hW10] at X10
  have HW10 := Lib.hid hW10
  clear hW10
  go_upto_region 29 with fail
  rw [HW10.out]
  clear f1 t1
  have f0 := X10.out.fz 0
  have f1 := X10.out.fz 1
  have f2 := X10.out.fz 2
  have f3 := X10.out.fz 3
  have t0 := X10.out.cell 0 (.int .i64 (B : Int)) rfl
  have t1 := X10.out.cell 1 (.int .i64 n) rfl
  have t2 := X10.out.cell 2 (.int .i64 0) rfl
  have t3 := X10.out.cell 3 (.slice none 0 0) rfl
  have X20 := Lib.hid ((((X10.out.set 0 (.int .i64 (B : Int))).set 1 (.int .i64 n)).set 2 (.int .i64 0)).set 3 (.slice none 0 0))
  obtain ⟨W20, hW20⟩ : ∃ W20, (((W10.setCell ⟨w.heap.size, 0, none⟩ (.int .i64 (B : Int))).setCell ⟨w.heap.size, 1, none⟩ (.int .i64 n)).setCell ⟨w.heap.size, 2, none⟩ (.int .i64 0)).setCell ⟨w.heap.size, 3, none⟩ (.slice none 0 0) = W20 := ⟨_, rfl⟩
  rw [hW20] at X20
  have HW20 := Lib.hid hW20
  clear hW20
  have r0 : W20.cell? ⟨w.heap.size, 0, none⟩ = some (.int .i64 (B : Int)) := X20.out.cell 0 _ rfl
  have r1 : W20.cell? ⟨w.heap.size, 1, none⟩ = some (.int .i64 n) := X20.out.cell 1 _ rfl
  have r2 : W20.cell? ⟨w.heap.size, 2, none⟩ = some (.int .i64 0) := X20.out.cell 2 _ rfl
  have r3 : W20.cell? ⟨w.heap.size, 3, none⟩ = some (.slice none 0 0) := X20.out.cell 3 _ rfl
  go_wp2_with fail
  rw [HW20.out]
  (try simp only [Exit.inBlock, Exit.then])
  refine bodyPost_ret (v := .agg #[.int .i64 (B : Int), .int .i64 n, .int .i64 0, .slice none 0 0]) (by simp [results, Tryz.results89, go_sem, r0, r1, r2, r3]) rfl ?_
  exact ⟨_, rfl, own_nil _ _ _ _, Nat.zero_le _, X20.out.rd, X20.out.keep⟩
set_option maxRecDepth 100000 in
set_option maxHeartbeats 4000000 in
theorem ri_s7b (h : Rd w0 w rb mb s r) {B : Nat} {q : RS} (hb : oneP s.data.toList r = (B, q)) (hB : B < 256) (hfl : floatB (B : Int) = false) (h17 : B ≠ 17) (nm ps rs : ByteArray) (hi : (opInfo (B : Int)).getD zeroI = ⟨nm, 7, ps, rs⟩) (hsm : (opInfo (B : Int)).isSome = true) (hq : q.e = 0) {n : Int} {Q : RS} (h66 : B ≠ 66) (hn : s32P s.data.toList q = (n, Q)) (hwn : wrap64 n = n) :
    Calls Tryz.prog 89 #[.pointer (some ⟨rb, 0, none⟩)] w (GotI w0 w rb mb s ⟨(B : Int), n, 0, []⟩ Q) := by
  have HN := Lib.hid hn
  have hq66 : ((B : Int) == 66) = false := beq_eq_false_iff_ne.2 (by omega)
  clear hn h66
  have hq17 : ((B : Int) == 17) = false := beq_eq_false_iff_ne.2 (by omega)
  have HQE := Lib.hid hq
  clear h17 hq
  have X1 := Lib.hid (XI.new h #[.int .i64 0, .int .i64 0, .int .i64 0, .slice none 0 0])
  have HONE := Lib.hid (rd_one X1.out.rd hb)
  have hwb := wbyte hB
  have HB := Lib.hid hB
  have HI := Lib.hid hi
  have HS := Lib.hid hsm
  clear h hb hB hi hsm
  go_enter Tryz.func89, Tryz.ntmps89
  go_upto_region 1 with fail
  obtain ⟨W1, hW1⟩ : ∃ W1, w.alloc (.cells #[.int .i64 0, .int .i64 0, .int .i64 0, .slice none 0 0] 33) = W1 := ⟨_, rfl⟩
  rw [hW1] at HONE X1 ⊢
  clear hW1
  go_wp2_with fail
  refine HONE.out.mono ?_
  rintro e w2 ⟨rfl, h2, k2⟩
  have X2 := Lib.hid (X1.out.step h2 k2)
  clear h2 k2
  go_wp2_with fail
  refine (float_any (B : Int) w2).mono ?_
  rintro e w3 ⟨rfl, c3⟩
  have X3 := Lib.hid (X2.out.later c3)
  clear c3
  rw [hfl]
  go_wp2_with fail
  refine (rd_fail X3.out.rd false 3).mono ?_
  rintro e w4 ⟨rfl, h4, k4⟩
  have X4 := Lib.hid (X3.out.step h4 k4)
  clear h4 k4
  go_wp2_with fail
  refine (rd_info X4.out.rd HB.out nm 7 ps rs true HI.out HS.out).mono ?_
  rintro e w5 ⟨rfl, h5, k5⟩
  have X5 := Lib.hid (X4.out.step h5 k5)
  clear h5 k5
  go_upto_region 4 with fail
  obtain ⟨W6, hW6⟩ : ∃ W6, w5.alloc (.cells #[.string nm, .int .i64 7, .string ps, .string rs] 90) = W6 := ⟨_, rfl⟩
  have B6 : Below w5.heap.size w5 W6 := by rw [← hW6]; exact (Below.refl _ _).alloc (Nat.le_refl _) _
  have i1 := cell_of_row W6 _ 1 _ _ _ (show W6.heap[w5.heap.size]? = some (.cells #[.string nm, .int .i64 7, .string ps, .string rs] 90 (0, 0)) by rw [← hW6]; exact heap_alloc_new _ _)
  have X6 := Lib.hid (X5.out.later B6)
  have z6 : w5.heap.size < W6.heap.size := by rw [← hW6]; simp
  have n6 : w.heap.size < w5.heap.size := X5.out.size
  rw [hW6]
  clear hW6 B6
  go_wp2_with fail
  refine (rd_fail X6.out.rd (!true) 2).mono ?_
  rintro e w7 ⟨rfl, h7, k7⟩
  have X7 := Lib.hid (X6.out.step h7 k7)
  replace i1 := k7.cell i1 (fun e => by have := X5.out.lt; rcases e with e | e <;> (dsimp only at e; omega))
  rw [show failP (!true) 2 (failP false 3 q) = q by rw [Bool.not_true, fail_ok, fail_ok]] at X7
  clear h7 k7
  have c2 := X7.out.rd.rd.c2
  rw [HQE.out] at c2
  have f0 := X7.out.fz 0
  have t0 := X7.out.cell 0 (.int .i64 0) rfl
  have X8 := Lib.hid (X7.out.set 0 (.int .i64 (B : Int)))
  replace i1 : (w7.setCell ⟨w.heap.size, 0, none⟩ (.int .i64 (B : Int))).cell? ⟨w5.heap.size, 1, none⟩ = _ := (Keeps.setCell (F := fun j => j = w.heap.size) w7 ⟨w.heap.size, 0, none⟩ (.int .i64 (B : Int)) rfl).cell i1 (by show ¬ w5.heap.size = w.heap.size; omega)
  obtain ⟨W8, hW8⟩ : ∃ W8, w7.setCell ⟨w.heap.size, 0, none⟩ (.int .i64 (B : Int)) = W8 := ⟨_, rfl⟩
  rw [hW8] at X8 i1
  have HW8 := Lib.hid hW8
  clear hW8
  go_upto_region 8 with fail
  rw [HW8.out]
  clear c2 f0 t0
  go_wp2_with fail
  refine (rd_s32 X8.out.rd HN.out).mono ?_
  rintro e w9 ⟨rfl, h9, k9⟩
  have X9 := Lib.hid (X8.out.step h9 k9)
  clear h9 k9
  have f1 := X9.out.fz 1
  have t1 := X9.out.cell 1 (.int .i64 0) rfl
  have X10 := Lib.hid (X9.out.set 1 (.int .i64 n))
  obtain ⟨W10, hW10⟩ : ∃ W10, w9.setCell ⟨w.heap.size, 1, none⟩ (.int .i64 n) = W10 := ⟨_, rfl⟩
  rw [hW10] at X10
  have HW10 := Lib.hid hW10
  clear hW10
  go_upto_region 29 with fail
  rw [HW10.out]
  clear f1 t1
  have f0 := X10.out.fz 0
  have f1 := X10.out.fz 1
  have f2 := X10.out.fz 2
  have f3 := X10.out.fz 3
  have t0 := X10.out.cell 0 (.int .i64 (B : Int)) rfl
  have t1 := X10.out.cell 1 (.int .i64 n) rfl
  have t2 := X10.out.cell 2 (.int .i64 0) rfl
  have t3 := X10.out.cell 3 (.slice none 0 0) rfl
  have X20 := Lib.hid ((((X10.out.set 0 (.int .i64 (B : Int))).set 1 (.int .i64 n)).set 2 (.int .i64 0)).set 3 (.slice none 0 0))
  obtain ⟨W20, hW20⟩ : ∃ W20, (((W10.setCell ⟨w.heap.size, 0, none⟩ (.int .i64 (B : Int))).setCell ⟨w.heap.size, 1, none⟩ (.int .i64 n)).setCell ⟨w.heap.size, 2, none⟩ (.int .i64 0)).setCell ⟨w.heap.size, 3, none⟩ (.slice none 0 0) = W20 := ⟨_, rfl⟩
  rw [hW20] at X20
  have HW20 := Lib.hid hW20
  clear hW20
  have r0 : W20.cell? ⟨w.heap.size, 0, none⟩ = some (.int .i64 (B : Int)) := X20.out.cell 0 _ rfl
  have r1 : W20.cell? ⟨w.heap.size, 1, none⟩ = some (.int .i64 n) := X20.out.cell 1 _ rfl
  have r2 : W20.cell? ⟨w.heap.size, 2, none⟩ = some (.int .i64 0) := X20.out.cell 2 _ rfl
  have r3 : W20.cell? ⟨w.heap.size, 3, none⟩ = some (.slice none 0 0) := X20.out.cell 3 _ rfl
  go_wp2_with fail
  rw [HW20.out]
  (try simp only [Exit.inBlock, Exit.then])
  refine bodyPost_ret (v := .agg #[.int .i64 (B : Int), .int .i64 n, .int .i64 0, .slice none 0 0]) (by simp [results, Tryz.results89, go_sem, r0, r1, r2, r3]) rfl ?_
  exact ⟨_, rfl, own_nil _ _ _ _, Nat.zero_le _, X20.out.rd, X20.out.keep⟩
set_option maxRecDepth 100000 in
set_option maxHeartbeats 4000000 in
theorem ri_s1_125 (h : Rd w0 w rb mb s r) {B : Nat} {q : RS} (hb : oneP s.data.toList r = (B, q)) (hB : B < 256) (hfl : floatB (B : Int) = false) (h17 : B ≠ 17) (nm ps rs : ByteArray) (hi : (opInfo (B : Int)).getD zeroI = ⟨nm, 1, ps, rs⟩) (hsm : (opInfo (B : Int)).isSome = true) (hq : q.e = 0) {T : Nat} {q1 Q : RS} (hT : oneP s.data.toList q = (T, q1)) (hT8 : T < 256) (hT0 : T = 125) (hQ : failP (T != 64 && T != 127 && T != 126) 2 (failP (T == 125 || T == 124) 3 q1) = Q) :
    Calls Tryz.prog 89 #[.pointer (some ⟨rb, 0, none⟩)] w (GotI w0 w rb mb s ⟨(B : Int), (T : Int), 0, []⟩ Q) := by
  have hz125e : ((T : Int) == 125) = true := by rw [hT0]; rfl
  have hz125n : ((T : Int) != 125) = false := by rw [hT0]; rfl
  have hz124e : ((T : Int) == 124) = false := by rw [hT0]; rfl
  have hz124n : ((T : Int) != 124) = true := by rw [hT0]; rfl
  have hz64e : ((T : Int) == 64) = false := by rw [hT0]; rfl
  have hz64n : ((T : Int) != 64) = true := by rw [hT0]; rfl
  have hz127e : ((T : Int) == 127) = false := by rw [hT0]; rfl
  have hz127n : ((T : Int) != 127) = true := by rw [hT0]; rfl
  have hz126e : ((T : Int) == 126) = false := by rw [hT0]; rfl
  have hz126n : ((T : Int) != 126) = true := by rw [hT0]; rfl
  have e1 : (T == 125 || T == 124) = true := by rw [hT0]; rfl
  have e2 : (T != 64 && T != 127 && T != 126) = true := by rw [hT0]; rfl
  rw [e1, e2] at hQ
  have HQ := Lib.hid hQ
  have HT := Lib.hid hT
  have hwt := wbyte hT8
  clear hT hQ hT0 hT8 e1 e2
  have hq17 : ((B : Int) == 17) = false := beq_eq_false_iff_ne.2 (by omega)
  have HQE := Lib.hid hq
  clear h17 hq
  have X1 := Lib.hid (XI.new h #[.int .i64 0, .int .i64 0, .int .i64 0, .slice none 0 0])
  have HONE := Lib.hid (rd_one X1.out.rd hb)
  have hwb := wbyte hB
  have HB := Lib.hid hB
  have HI := Lib.hid hi
  have HS := Lib.hid hsm
  clear h hb hB hi hsm
  go_enter Tryz.func89, Tryz.ntmps89
  go_upto_region 1 with fail
  obtain ⟨W1, hW1⟩ : ∃ W1, w.alloc (.cells #[.int .i64 0, .int .i64 0, .int .i64 0, .slice none 0 0] 33) = W1 := ⟨_, rfl⟩
  rw [hW1] at HONE X1 ⊢
  clear hW1
  go_wp2_with fail
  refine HONE.out.mono ?_
  rintro e w2 ⟨rfl, h2, k2⟩
  have X2 := Lib.hid (X1.out.step h2 k2)
  clear h2 k2
  go_wp2_with fail
  refine (float_any (B : Int) w2).mono ?_
  rintro e w3 ⟨rfl, c3⟩
  have X3 := Lib.hid (X2.out.later c3)
  clear c3
  rw [hfl]
  go_wp2_with fail
  refine (rd_fail X3.out.rd false 3).mono ?_
  rintro e w4 ⟨rfl, h4, k4⟩
  have X4 := Lib.hid (X3.out.step h4 k4)
  clear h4 k4
  go_wp2_with fail
  refine (rd_info X4.out.rd HB.out nm 1 ps rs true HI.out HS.out).mono ?_
  rintro e w5 ⟨rfl, h5, k5⟩
  have X5 := Lib.hid (X4.out.step h5 k5)
  clear h5 k5
  go_upto_region 4 with fail
  obtain ⟨W6, hW6⟩ : ∃ W6, w5.alloc (.cells #[.string nm, .int .i64 1, .string ps, .string rs] 90) = W6 := ⟨_, rfl⟩
  have B6 : Below w5.heap.size w5 W6 := by rw [← hW6]; exact (Below.refl _ _).alloc (Nat.le_refl _) _
  have i1 := cell_of_row W6 _ 1 _ _ _ (show W6.heap[w5.heap.size]? = some (.cells #[.string nm, .int .i64 1, .string ps, .string rs] 90 (0, 0)) by rw [← hW6]; exact heap_alloc_new _ _)
  have X6 := Lib.hid (X5.out.later B6)
  have z6 : w5.heap.size < W6.heap.size := by rw [← hW6]; simp
  have n6 : w.heap.size < w5.heap.size := X5.out.size
  rw [hW6]
  clear hW6 B6
  go_wp2_with fail
  refine (rd_fail X6.out.rd (!true) 2).mono ?_
  rintro e w7 ⟨rfl, h7, k7⟩
  have X7 := Lib.hid (X6.out.step h7 k7)
  replace i1 := k7.cell i1 (fun e => by have := X5.out.lt; rcases e with e | e <;> (dsimp only at e; omega))
  rw [show failP (!true) 2 (failP false 3 q) = q by rw [Bool.not_true, fail_ok, fail_ok]] at X7
  clear h7 k7
  have c2 := X7.out.rd.rd.c2
  rw [HQE.out] at c2
  have f0 := X7.out.fz 0
  have t0 := X7.out.cell 0 (.int .i64 0) rfl
  have X8 := Lib.hid (X7.out.set 0 (.int .i64 (B : Int)))
  replace i1 : (w7.setCell ⟨w.heap.size, 0, none⟩ (.int .i64 (B : Int))).cell? ⟨w5.heap.size, 1, none⟩ = _ := (Keeps.setCell (F := fun j => j = w.heap.size) w7 ⟨w.heap.size, 0, none⟩ (.int .i64 (B : Int)) rfl).cell i1 (by show ¬ w5.heap.size = w.heap.size; omega)
  obtain ⟨W8, hW8⟩ : ∃ W8, w7.setCell ⟨w.heap.size, 0, none⟩ (.int .i64 (B : Int)) = W8 := ⟨_, rfl⟩
  rw [hW8] at X8 i1
  have HW8 := Lib.hid hW8
  clear hW8
  go_upto_region 8 with fail
  rw [HW8.out]
  clear c2 f0 t0
  go_wp2_with fail
  refine (rd_one X8.out.rd HT.out).mono ?_
  rintro e w9 ⟨rfl, h9, k9⟩
  have X9 := Lib.hid (X8.out.step h9 k9)
  clear h9 k9
  go_wp2_with fail
  refine (rd_fail X9.out.rd true 3).mono ?_
  rintro e w10 ⟨rfl, h10, k10⟩
  have X10 := Lib.hid (X9.out.step h10 k10)
  clear h10 k10
  go_wp2_with fail
  refine (rd_fail X10.out.rd true 2).mono ?_
  rintro e w11 ⟨rfl, h11, k11⟩
  have X11 := Lib.hid (X10.out.step h11 k11)
  clear h11 k11
  rw [HQ.out] at X11
  have f1 := X11.out.fz 1
  have t1 := X11.out.cell 1 (.int .i64 0) rfl
  have X12 := Lib.hid (X11.out.set 1 (.int .i64 (T : Int)))
  obtain ⟨W12, hW12⟩ : ∃ W12, w11.setCell ⟨w.heap.size, 1, none⟩ (.int .i64 (T : Int)) = W12 := ⟨_, rfl⟩
  rw [hW12] at X12
  have HW12 := Lib.hid hW12
  clear hW12
  go_upto_region 29 with fail
  rw [HW12.out]
  clear f1 t1
  have f0 := X12.out.fz 0
  have f1 := X12.out.fz 1
  have f2 := X12.out.fz 2
  have f3 := X12.out.fz 3
  have t0 := X12.out.cell 0 (.int .i64 (B : Int)) rfl
  have t1 := X12.out.cell 1 (.int .i64 (T : Int)) rfl
  have t2 := X12.out.cell 2 (.int .i64 0) rfl
  have t3 := X12.out.cell 3 (.slice none 0 0) rfl
  have X20 := Lib.hid ((((X12.out.set 0 (.int .i64 (B : Int))).set 1 (.int .i64 (T : Int))).set 2 (.int .i64 0)).set 3 (.slice none 0 0))
  obtain ⟨W20, hW20⟩ : ∃ W20, (((W12.setCell ⟨w.heap.size, 0, none⟩ (.int .i64 (B : Int))).setCell ⟨w.heap.size, 1, none⟩ (.int .i64 (T : Int))).setCell ⟨w.heap.size, 2, none⟩ (.int .i64 0)).setCell ⟨w.heap.size, 3, none⟩ (.slice none 0 0) = W20 := ⟨_, rfl⟩
  rw [hW20] at X20
  have HW20 := Lib.hid hW20
  clear hW20
  have r0 : W20.cell? ⟨w.heap.size, 0, none⟩ = some (.int .i64 (B : Int)) := X20.out.cell 0 _ rfl
  have r1 : W20.cell? ⟨w.heap.size, 1, none⟩ = some (.int .i64 (T : Int)) := X20.out.cell 1 _ rfl
  have r2 : W20.cell? ⟨w.heap.size, 2, none⟩ = some (.int .i64 0) := X20.out.cell 2 _ rfl
  have r3 : W20.cell? ⟨w.heap.size, 3, none⟩ = some (.slice none 0 0) := X20.out.cell 3 _ rfl
  go_wp2_with fail
  rw [HW20.out]
  (try simp only [Exit.inBlock, Exit.then])
  refine bodyPost_ret (v := .agg #[.int .i64 (B : Int), .int .i64 (T : Int), .int .i64 0, .slice none 0 0]) (by simp [results, Tryz.results89, go_sem, r0, r1, r2, r3]) rfl ?_
  exact ⟨_, rfl, own_nil _ _ _ _, Nat.zero_le _, X20.out.rd, X20.out.keep⟩
set_option maxRecDepth 100000 in
set_option maxHeartbeats 4000000 in
theorem ri_s1_124 (h : Rd w0 w rb mb s r) {B : Nat} {q : RS} (hb : oneP s.data.toList r = (B, q)) (hB : B < 256) (hfl : floatB (B : Int) = false) (h17 : B ≠ 17) (nm ps rs : ByteArray) (hi : (opInfo (B : Int)).getD zeroI = ⟨nm, 1, ps, rs⟩) (hsm : (opInfo (B : Int)).isSome = true) (hq : q.e = 0) {T : Nat} {q1 Q : RS} (hT : oneP s.data.toList q = (T, q1)) (hT8 : T < 256) (hT0 : T = 124) (hQ : failP (T != 64 && T != 127 && T != 126) 2 (failP (T == 125 || T == 124) 3 q1) = Q) :
    Calls Tryz.prog 89 #[.pointer (some ⟨rb, 0, none⟩)] w (GotI w0 w rb mb s ⟨(B : Int), (T : Int), 0, []⟩ Q) := by
  have hz125e : ((T : Int) == 125) = false := by rw [hT0]; rfl
  have hz125n : ((T : Int) != 125) = true := by rw [hT0]; rfl
  have hz124e : ((T : Int) == 124) = true := by rw [hT0]; rfl
  have hz124n : ((T : Int) != 124) = false := by rw [hT0]; rfl
  have hz64e : ((T : Int) == 64) = false := by rw [hT0]; rfl
  have hz64n : ((T : Int) != 64) = true := by rw [hT0]; rfl
  have hz127e : ((T : Int) == 127) = false := by rw [hT0]; rfl
  have hz127n : ((T : Int) != 127) = true := by rw [hT0]; rfl
  have hz126e : ((T : Int) == 126) = false := by rw [hT0]; rfl
  have hz126n : ((T : Int) != 126) = true := by rw [hT0]; rfl
  have e1 : (T == 125 || T == 124) = true := by rw [hT0]; rfl
  have e2 : (T != 64 && T != 127 && T != 126) = true := by rw [hT0]; rfl
  rw [e1, e2] at hQ
  have HQ := Lib.hid hQ
  have HT := Lib.hid hT
  have hwt := wbyte hT8
  clear hT hQ hT0 hT8 e1 e2
  have hq17 : ((B : Int) == 17) = false := beq_eq_false_iff_ne.2 (by omega)
  have HQE := Lib.hid hq
  clear h17 hq
  have X1 := Lib.hid (XI.new h #[.int .i64 0, .int .i64 0, .int .i64 0, .slice none 0 0])
  have HONE := Lib.hid (rd_one X1.out.rd hb)
  have hwb := wbyte hB
  have HB := Lib.hid hB
  have HI := Lib.hid hi
  have HS := Lib.hid hsm
  clear h hb hB hi hsm
  go_enter Tryz.func89, Tryz.ntmps89
  go_upto_region 1 with fail
  obtain ⟨W1, hW1⟩ : ∃ W1, w.alloc (.cells #[.int .i64 0, .int .i64 0, .int .i64 0, .slice none 0 0] 33) = W1 := ⟨_, rfl⟩
  rw [hW1] at HONE X1 ⊢
  clear hW1
  go_wp2_with fail
  refine HONE.out.mono ?_
  rintro e w2 ⟨rfl, h2, k2⟩
  have X2 := Lib.hid (X1.out.step h2 k2)
  clear h2 k2
  go_wp2_with fail
  refine (float_any (B : Int) w2).mono ?_
  rintro e w3 ⟨rfl, c3⟩
  have X3 := Lib.hid (X2.out.later c3)
  clear c3
  rw [hfl]
  go_wp2_with fail
  refine (rd_fail X3.out.rd false 3).mono ?_
  rintro e w4 ⟨rfl, h4, k4⟩
  have X4 := Lib.hid (X3.out.step h4 k4)
  clear h4 k4
  go_wp2_with fail
  refine (rd_info X4.out.rd HB.out nm 1 ps rs true HI.out HS.out).mono ?_
  rintro e w5 ⟨rfl, h5, k5⟩
  have X5 := Lib.hid (X4.out.step h5 k5)
  clear h5 k5
  go_upto_region 4 with fail
  obtain ⟨W6, hW6⟩ : ∃ W6, w5.alloc (.cells #[.string nm, .int .i64 1, .string ps, .string rs] 90) = W6 := ⟨_, rfl⟩
  have B6 : Below w5.heap.size w5 W6 := by rw [← hW6]; exact (Below.refl _ _).alloc (Nat.le_refl _) _
  have i1 := cell_of_row W6 _ 1 _ _ _ (show W6.heap[w5.heap.size]? = some (.cells #[.string nm, .int .i64 1, .string ps, .string rs] 90 (0, 0)) by rw [← hW6]; exact heap_alloc_new _ _)
  have X6 := Lib.hid (X5.out.later B6)
  have z6 : w5.heap.size < W6.heap.size := by rw [← hW6]; simp
  have n6 : w.heap.size < w5.heap.size := X5.out.size
  rw [hW6]
  clear hW6 B6
  go_wp2_with fail
  refine (rd_fail X6.out.rd (!true) 2).mono ?_
  rintro e w7 ⟨rfl, h7, k7⟩
  have X7 := Lib.hid (X6.out.step h7 k7)
  replace i1 := k7.cell i1 (fun e => by have := X5.out.lt; rcases e with e | e <;> (dsimp only at e; omega))
  rw [show failP (!true) 2 (failP false 3 q) = q by rw [Bool.not_true, fail_ok, fail_ok]] at X7
  clear h7 k7
  have c2 := X7.out.rd.rd.c2
  rw [HQE.out] at c2
  have f0 := X7.out.fz 0
  have t0 := X7.out.cell 0 (.int .i64 0) rfl
  have X8 := Lib.hid (X7.out.set 0 (.int .i64 (B : Int)))
  replace i1 : (w7.setCell ⟨w.heap.size, 0, none⟩ (.int .i64 (B : Int))).cell? ⟨w5.heap.size, 1, none⟩ = _ := (Keeps.setCell (F := fun j => j = w.heap.size) w7 ⟨w.heap.size, 0, none⟩ (.int .i64 (B : Int)) rfl).cell i1 (by show ¬ w5.heap.size = w.heap.size; omega)
  obtain ⟨W8, hW8⟩ : ∃ W8, w7.setCell ⟨w.heap.size, 0, none⟩ (.int .i64 (B : Int)) = W8 := ⟨_, rfl⟩
  rw [hW8] at X8 i1
  have HW8 := Lib.hid hW8
  clear hW8
  go_upto_region 8 with fail
  rw [HW8.out]
  clear c2 f0 t0
  go_wp2_with fail
  refine (rd_one X8.out.rd HT.out).mono ?_
  rintro e w9 ⟨rfl, h9, k9⟩
  have X9 := Lib.hid (X8.out.step h9 k9)
  clear h9 k9
  go_wp2_with fail
  refine (rd_fail X9.out.rd true 3).mono ?_
  rintro e w10 ⟨rfl, h10, k10⟩
  have X10 := Lib.hid (X9.out.step h10 k10)
  clear h10 k10
  go_wp2_with fail
  refine (rd_fail X10.out.rd true 2).mono ?_
  rintro e w11 ⟨rfl, h11, k11⟩
  have X11 := Lib.hid (X10.out.step h11 k11)
  clear h11 k11
  rw [HQ.out] at X11
  have f1 := X11.out.fz 1
  have t1 := X11.out.cell 1 (.int .i64 0) rfl
  have X12 := Lib.hid (X11.out.set 1 (.int .i64 (T : Int)))
  obtain ⟨W12, hW12⟩ : ∃ W12, w11.setCell ⟨w.heap.size, 1, none⟩ (.int .i64 (T : Int)) = W12 := ⟨_, rfl⟩
  rw [hW12] at X12
  have HW12 := Lib.hid hW12
  clear hW12
  go_upto_region 29 with fail
  rw [HW12.out]
  clear f1 t1
  have f0 := X12.out.fz 0
  have f1 := X12.out.fz 1
  have f2 := X12.out.fz 2
  have f3 := X12.out.fz 3
  have t0 := X12.out.cell 0 (.int .i64 (B : Int)) rfl
  have t1 := X12.out.cell 1 (.int .i64 (T : Int)) rfl
  have t2 := X12.out.cell 2 (.int .i64 0) rfl
  have t3 := X12.out.cell 3 (.slice none 0 0) rfl
  have X20 := Lib.hid ((((X12.out.set 0 (.int .i64 (B : Int))).set 1 (.int .i64 (T : Int))).set 2 (.int .i64 0)).set 3 (.slice none 0 0))
  obtain ⟨W20, hW20⟩ : ∃ W20, (((W12.setCell ⟨w.heap.size, 0, none⟩ (.int .i64 (B : Int))).setCell ⟨w.heap.size, 1, none⟩ (.int .i64 (T : Int))).setCell ⟨w.heap.size, 2, none⟩ (.int .i64 0)).setCell ⟨w.heap.size, 3, none⟩ (.slice none 0 0) = W20 := ⟨_, rfl⟩
  rw [hW20] at X20
  have HW20 := Lib.hid hW20
  clear hW20
  have r0 : W20.cell? ⟨w.heap.size, 0, none⟩ = some (.int .i64 (B : Int)) := X20.out.cell 0 _ rfl
  have r1 : W20.cell? ⟨w.heap.size, 1, none⟩ = some (.int .i64 (T : Int)) := X20.out.cell 1 _ rfl
  have r2 : W20.cell? ⟨w.heap.size, 2, none⟩ = some (.int .i64 0) := X20.out.cell 2 _ rfl
  have r3 : W20.cell? ⟨w.heap.size, 3, none⟩ = some (.slice none 0 0) := X20.out.cell 3 _ rfl
  go_wp2_with fail
  rw [HW20.out]
  (try simp only [Exit.inBlock, Exit.then])
  refine bodyPost_ret (v := .agg #[.int .i64 (B : Int), .int .i64 (T : Int), .int .i64 0, .slice none 0 0]) (by simp [results, Tryz.results89, go_sem, r0, r1, r2, r3]) rfl ?_
  exact ⟨_, rfl, own_nil _ _ _ _, Nat.zero_le _, X20.out.rd, X20.out.keep⟩
set_option maxRecDepth 100000 in
set_option maxHeartbeats 4000000 in
theorem ri_s1_64 (h : Rd w0 w rb mb s r) {B : Nat} {q : RS} (hb : oneP s.data.toList r = (B, q)) (hB : B < 256) (hfl : floatB (B : Int) = false) (h17 : B ≠ 17) (nm ps rs : ByteArray) (hi : (opInfo (B : Int)).getD zeroI = ⟨nm, 1, ps, rs⟩) (hsm : (opInfo (B : Int)).isSome = true) (hq : q.e = 0) {T : Nat} {q1 Q : RS} (hT : oneP s.data.toList q = (T, q1)) (hT8 : T < 256) (hT0 : T = 64) (hQ : failP (T != 64 && T != 127 && T != 126) 2 (failP (T == 125 || T == 124) 3 q1) = Q) :
    Calls Tryz.prog 89 #[.pointer (some ⟨rb, 0, none⟩)] w (GotI w0 w rb mb s ⟨(B : Int), (T : Int), 0, []⟩ Q) := by
  have hz125e : ((T : Int) == 125) = false := by rw [hT0]; rfl
  have hz125n : ((T : Int) != 125) = true := by rw [hT0]; rfl
  have hz124e : ((T : Int) == 124) = false := by rw [hT0]; rfl
  have hz124n : ((T : Int) != 124) = true := by rw [hT0]; rfl
  have hz64e : ((T : Int) == 64) = true := by rw [hT0]; rfl
  have hz64n : ((T : Int) != 64) = false := by rw [hT0]; rfl
  have hz127e : ((T : Int) == 127) = false := by rw [hT0]; rfl
  have hz127n : ((T : Int) != 127) = true := by rw [hT0]; rfl
  have hz126e : ((T : Int) == 126) = false := by rw [hT0]; rfl
  have hz126n : ((T : Int) != 126) = true := by rw [hT0]; rfl
  have e1 : (T == 125 || T == 124) = false := by rw [hT0]; rfl
  have e2 : (T != 64 && T != 127 && T != 126) = false := by rw [hT0]; rfl
  rw [e1, e2] at hQ
  have HQ := Lib.hid hQ
  have HT := Lib.hid hT
  have hwt := wbyte hT8
  clear hT hQ hT0 hT8 e1 e2
  have hq17 : ((B : Int) == 17) = false := beq_eq_false_iff_ne.2 (by omega)
  have HQE := Lib.hid hq
  clear h17 hq
  have X1 := Lib.hid (XI.new h #[.int .i64 0, .int .i64 0, .int .i64 0, .slice none 0 0])
  have HONE := Lib.hid (rd_one X1.out.rd hb)
  have hwb := wbyte hB
  have HB := Lib.hid hB
  have HI := Lib.hid hi
  have HS := Lib.hid hsm
  clear h hb hB hi hsm
  go_enter Tryz.func89, Tryz.ntmps89
  go_upto_region 1 with fail
  obtain ⟨W1, hW1⟩ : ∃ W1, w.alloc (.cells #[.int .i64 0, .int .i64 0, .int .i64 0, .slice none 0 0] 33) = W1 := ⟨_, rfl⟩
  rw [hW1] at HONE X1 ⊢
  clear hW1
  go_wp2_with fail
  refine HONE.out.mono ?_
  rintro e w2 ⟨rfl, h2, k2⟩
  have X2 := Lib.hid (X1.out.step h2 k2)
  clear h2 k2
  go_wp2_with fail
  refine (float_any (B : Int) w2).mono ?_
  rintro e w3 ⟨rfl, c3⟩
  have X3 := Lib.hid (X2.out.later c3)
  clear c3
  rw [hfl]
  go_wp2_with fail
  refine (rd_fail X3.out.rd false 3).mono ?_
  rintro e w4 ⟨rfl, h4, k4⟩
  have X4 := Lib.hid (X3.out.step h4 k4)
  clear h4 k4
  go_wp2_with fail
  refine (rd_info X4.out.rd HB.out nm 1 ps rs true HI.out HS.out).mono ?_
  rintro e w5 ⟨rfl, h5, k5⟩
  have X5 := Lib.hid (X4.out.step h5 k5)
  clear h5 k5
  go_upto_region 4 with fail
  obtain ⟨W6, hW6⟩ : ∃ W6, w5.alloc (.cells #[.string nm, .int .i64 1, .string ps, .string rs] 90) = W6 := ⟨_, rfl⟩
  have B6 : Below w5.heap.size w5 W6 := by rw [← hW6]; exact (Below.refl _ _).alloc (Nat.le_refl _) _
  have i1 := cell_of_row W6 _ 1 _ _ _ (show W6.heap[w5.heap.size]? = some (.cells #[.string nm, .int .i64 1, .string ps, .string rs] 90 (0, 0)) by rw [← hW6]; exact heap_alloc_new _ _)
  have X6 := Lib.hid (X5.out.later B6)
  have z6 : w5.heap.size < W6.heap.size := by rw [← hW6]; simp
  have n6 : w.heap.size < w5.heap.size := X5.out.size
  rw [hW6]
  clear hW6 B6
  go_wp2_with fail
  refine (rd_fail X6.out.rd (!true) 2).mono ?_
  rintro e w7 ⟨rfl, h7, k7⟩
  have X7 := Lib.hid (X6.out.step h7 k7)
  replace i1 := k7.cell i1 (fun e => by have := X5.out.lt; rcases e with e | e <;> (dsimp only at e; omega))
  rw [show failP (!true) 2 (failP false 3 q) = q by rw [Bool.not_true, fail_ok, fail_ok]] at X7
  clear h7 k7
  have c2 := X7.out.rd.rd.c2
  rw [HQE.out] at c2
  have f0 := X7.out.fz 0
  have t0 := X7.out.cell 0 (.int .i64 0) rfl
  have X8 := Lib.hid (X7.out.set 0 (.int .i64 (B : Int)))
  replace i1 : (w7.setCell ⟨w.heap.size, 0, none⟩ (.int .i64 (B : Int))).cell? ⟨w5.heap.size, 1, none⟩ = _ := (Keeps.setCell (F := fun j => j = w.heap.size) w7 ⟨w.heap.size, 0, none⟩ (.int .i64 (B : Int)) rfl).cell i1 (by show ¬ w5.heap.size = w.heap.size; omega)
  obtain ⟨W8, hW8⟩ : ∃ W8, w7.setCell ⟨w.heap.size, 0, none⟩ (.int .i64 (B : Int)) = W8 := ⟨_, rfl⟩
  rw [hW8] at X8 i1
  have HW8 := Lib.hid hW8
  clear hW8
  go_upto_region 8 with fail
  rw [HW8.out]
  clear c2 f0 t0
  go_wp2_with fail
  refine (rd_one X8.out.rd HT.out).mono ?_
  rintro e w9 ⟨rfl, h9, k9⟩
  have X9 := Lib.hid (X8.out.step h9 k9)
  clear h9 k9
  go_wp2_with fail
  refine (rd_fail X9.out.rd false 3).mono ?_
  rintro e w10 ⟨rfl, h10, k10⟩
  have X10 := Lib.hid (X9.out.step h10 k10)
  clear h10 k10
  go_wp2_with fail
  refine (rd_fail X10.out.rd false 2).mono ?_
  rintro e w11 ⟨rfl, h11, k11⟩
  have X11 := Lib.hid (X10.out.step h11 k11)
  clear h11 k11
  rw [HQ.out] at X11
  have f1 := X11.out.fz 1
  have t1 := X11.out.cell 1 (.int .i64 0) rfl
  have X12 := Lib.hid (X11.out.set 1 (.int .i64 (T : Int)))
  obtain ⟨W12, hW12⟩ : ∃ W12, w11.setCell ⟨w.heap.size, 1, none⟩ (.int .i64 (T : Int)) = W12 := ⟨_, rfl⟩
  rw [hW12] at X12
  have HW12 := Lib.hid hW12
  clear hW12
  go_upto_region 29 with fail
  rw [HW12.out]
  clear f1 t1
  have f0 := X12.out.fz 0
  have f1 := X12.out.fz 1
  have f2 := X12.out.fz 2
  have f3 := X12.out.fz 3
  have t0 := X12.out.cell 0 (.int .i64 (B : Int)) rfl
  have t1 := X12.out.cell 1 (.int .i64 (T : Int)) rfl
  have t2 := X12.out.cell 2 (.int .i64 0) rfl
  have t3 := X12.out.cell 3 (.slice none 0 0) rfl
  have X20 := Lib.hid ((((X12.out.set 0 (.int .i64 (B : Int))).set 1 (.int .i64 (T : Int))).set 2 (.int .i64 0)).set 3 (.slice none 0 0))
  obtain ⟨W20, hW20⟩ : ∃ W20, (((W12.setCell ⟨w.heap.size, 0, none⟩ (.int .i64 (B : Int))).setCell ⟨w.heap.size, 1, none⟩ (.int .i64 (T : Int))).setCell ⟨w.heap.size, 2, none⟩ (.int .i64 0)).setCell ⟨w.heap.size, 3, none⟩ (.slice none 0 0) = W20 := ⟨_, rfl⟩
  rw [hW20] at X20
  have HW20 := Lib.hid hW20
  clear hW20
  have r0 : W20.cell? ⟨w.heap.size, 0, none⟩ = some (.int .i64 (B : Int)) := X20.out.cell 0 _ rfl
  have r1 : W20.cell? ⟨w.heap.size, 1, none⟩ = some (.int .i64 (T : Int)) := X20.out.cell 1 _ rfl
  have r2 : W20.cell? ⟨w.heap.size, 2, none⟩ = some (.int .i64 0) := X20.out.cell 2 _ rfl
  have r3 : W20.cell? ⟨w.heap.size, 3, none⟩ = some (.slice none 0 0) := X20.out.cell 3 _ rfl
  go_wp2_with fail
  rw [HW20.out]
  (try simp only [Exit.inBlock, Exit.then])
  refine bodyPost_ret (v := .agg #[.int .i64 (B : Int), .int .i64 (T : Int), .int .i64 0, .slice none 0 0]) (by simp [results, Tryz.results89, go_sem, r0, r1, r2, r3]) rfl ?_
  exact ⟨_, rfl, own_nil _ _ _ _, Nat.zero_le _, X20.out.rd, X20.out.keep⟩
set_option maxRecDepth 100000 in
set_option maxHeartbeats 4000000 in
theorem ri_s1_127 (h : Rd w0 w rb mb s r) {B : Nat} {q : RS} (hb : oneP s.data.toList r = (B, q)) (hB : B < 256) (hfl : floatB (B : Int) = false) (h17 : B ≠ 17) (nm ps rs : ByteArray) (hi : (opInfo (B : Int)).getD zeroI = ⟨nm, 1, ps, rs⟩) (hsm : (opInfo (B : Int)).isSome = true) (hq : q.e = 0) {T : Nat} {q1 Q : RS} (hT : oneP s.data.toList q = (T, q1)) (hT8 : T < 256) (hT0 : T = 127) (hQ : failP (T != 64 && T != 127 && T != 126) 2 (failP (T == 125 || T == 124) 3 q1) = Q) :
    Calls Tryz.prog 89 #[.pointer (some ⟨rb, 0, none⟩)] w (GotI w0 w rb mb s ⟨(B : Int), (T : Int), 0, []⟩ Q) := by
  have hz125e : ((T : Int) == 125) = false := by rw [hT0]; rfl
  have hz125n : ((T : Int) != 125) = true := by rw [hT0]; rfl
  have hz124e : ((T : Int) == 124) = false := by rw [hT0]; rfl
  have hz124n : ((T : Int) != 124) = true := by rw [hT0]; rfl
  have hz64e : ((T : Int) == 64) = false := by rw [hT0]; rfl
  have hz64n : ((T : Int) != 64) = true := by rw [hT0]; rfl
  have hz127e : ((T : Int) == 127) = true := by rw [hT0]; rfl
  have hz127n : ((T : Int) != 127) = false := by rw [hT0]; rfl
  have hz126e : ((T : Int) == 126) = false := by rw [hT0]; rfl
  have hz126n : ((T : Int) != 126) = true := by rw [hT0]; rfl
  have e1 : (T == 125 || T == 124) = false := by rw [hT0]; rfl
  have e2 : (T != 64 && T != 127 && T != 126) = false := by rw [hT0]; rfl
  rw [e1, e2] at hQ
  have HQ := Lib.hid hQ
  have HT := Lib.hid hT
  have hwt := wbyte hT8
  clear hT hQ hT0 hT8 e1 e2
  have hq17 : ((B : Int) == 17) = false := beq_eq_false_iff_ne.2 (by omega)
  have HQE := Lib.hid hq
  clear h17 hq
  have X1 := Lib.hid (XI.new h #[.int .i64 0, .int .i64 0, .int .i64 0, .slice none 0 0])
  have HONE := Lib.hid (rd_one X1.out.rd hb)
  have hwb := wbyte hB
  have HB := Lib.hid hB
  have HI := Lib.hid hi
  have HS := Lib.hid hsm
  clear h hb hB hi hsm
  go_enter Tryz.func89, Tryz.ntmps89
  go_upto_region 1 with fail
  obtain ⟨W1, hW1⟩ : ∃ W1, w.alloc (.cells #[.int .i64 0, .int .i64 0, .int .i64 0, .slice none 0 0] 33) = W1 := ⟨_, rfl⟩
  rw [hW1] at HONE X1 ⊢
  clear hW1
  go_wp2_with fail
  refine HONE.out.mono ?_
  rintro e w2 ⟨rfl, h2, k2⟩
  have X2 := Lib.hid (X1.out.step h2 k2)
  clear h2 k2
  go_wp2_with fail
  refine (float_any (B : Int) w2).mono ?_
  rintro e w3 ⟨rfl, c3⟩
  have X3 := Lib.hid (X2.out.later c3)
  clear c3
  rw [hfl]
  go_wp2_with fail
  refine (rd_fail X3.out.rd false 3).mono ?_
  rintro e w4 ⟨rfl, h4, k4⟩
  have X4 := Lib.hid (X3.out.step h4 k4)
  clear h4 k4
  go_wp2_with fail
  refine (rd_info X4.out.rd HB.out nm 1 ps rs true HI.out HS.out).mono ?_
  rintro e w5 ⟨rfl, h5, k5⟩
  have X5 := Lib.hid (X4.out.step h5 k5)
  clear h5 k5
  go_upto_region 4 with fail
  obtain ⟨W6, hW6⟩ : ∃ W6, w5.alloc (.cells #[.string nm, .int .i64 1, .string ps, .string rs] 90) = W6 := ⟨_, rfl⟩
  have B6 : Below w5.heap.size w5 W6 := by rw [← hW6]; exact (Below.refl _ _).alloc (Nat.le_refl _) _
  have i1 := cell_of_row W6 _ 1 _ _ _ (show W6.heap[w5.heap.size]? = some (.cells #[.string nm, .int .i64 1, .string ps, .string rs] 90 (0, 0)) by rw [← hW6]; exact heap_alloc_new _ _)
  have X6 := Lib.hid (X5.out.later B6)
  have z6 : w5.heap.size < W6.heap.size := by rw [← hW6]; simp
  have n6 : w.heap.size < w5.heap.size := X5.out.size
  rw [hW6]
  clear hW6 B6
  go_wp2_with fail
  refine (rd_fail X6.out.rd (!true) 2).mono ?_
  rintro e w7 ⟨rfl, h7, k7⟩
  have X7 := Lib.hid (X6.out.step h7 k7)
  replace i1 := k7.cell i1 (fun e => by have := X5.out.lt; rcases e with e | e <;> (dsimp only at e; omega))
  rw [show failP (!true) 2 (failP false 3 q) = q by rw [Bool.not_true, fail_ok, fail_ok]] at X7
  clear h7 k7
  have c2 := X7.out.rd.rd.c2
  rw [HQE.out] at c2
  have f0 := X7.out.fz 0
  have t0 := X7.out.cell 0 (.int .i64 0) rfl
  have X8 := Lib.hid (X7.out.set 0 (.int .i64 (B : Int)))
  replace i1 : (w7.setCell ⟨w.heap.size, 0, none⟩ (.int .i64 (B : Int))).cell? ⟨w5.heap.size, 1, none⟩ = _ := (Keeps.setCell (F := fun j => j = w.heap.size) w7 ⟨w.heap.size, 0, none⟩ (.int .i64 (B : Int)) rfl).cell i1 (by show ¬ w5.heap.size = w.heap.size; omega)
  obtain ⟨W8, hW8⟩ : ∃ W8, w7.setCell ⟨w.heap.size, 0, none⟩ (.int .i64 (B : Int)) = W8 := ⟨_, rfl⟩
  rw [hW8] at X8 i1
  have HW8 := Lib.hid hW8
  clear hW8
  go_upto_region 8 with fail
  rw [HW8.out]
  clear c2 f0 t0
  go_wp2_with fail
  refine (rd_one X8.out.rd HT.out).mono ?_
  rintro e w9 ⟨rfl, h9, k9⟩
  have X9 := Lib.hid (X8.out.step h9 k9)
  clear h9 k9
  go_wp2_with fail
  refine (rd_fail X9.out.rd false 3).mono ?_
  rintro e w10 ⟨rfl, h10, k10⟩
  have X10 := Lib.hid (X9.out.step h10 k10)
  clear h10 k10
  go_wp2_with fail
  refine (rd_fail X10.out.rd false 2).mono ?_
  rintro e w11 ⟨rfl, h11, k11⟩
  have X11 := Lib.hid (X10.out.step h11 k11)
  clear h11 k11
  rw [HQ.out] at X11
  have f1 := X11.out.fz 1
  have t1 := X11.out.cell 1 (.int .i64 0) rfl
  have X12 := Lib.hid (X11.out.set 1 (.int .i64 (T : Int)))
  obtain ⟨W12, hW12⟩ : ∃ W12, w11.setCell ⟨w.heap.size, 1, none⟩ (.int .i64 (T : Int)) = W12 := ⟨_, rfl⟩
  rw [hW12] at X12
  have HW12 := Lib.hid hW12
  clear hW12
  go_upto_region 29 with fail
  rw [HW12.out]
  clear f1 t1
  have f0 := X12.out.fz 0
  have f1 := X12.out.fz 1
  have f2 := X12.out.fz 2
  have f3 := X12.out.fz 3
  have t0 := X12.out.cell 0 (.int .i64 (B : Int)) rfl
  have t1 := X12.out.cell 1 (.int .i64 (T : Int)) rfl
  have t2 := X12.out.cell 2 (.int .i64 0) rfl
  have t3 := X12.out.cell 3 (.slice none 0 0) rfl
  have X20 := Lib.hid ((((X12.out.set 0 (.int .i64 (B : Int))).set 1 (.int .i64 (T : Int))).set 2 (.int .i64 0)).set 3 (.slice none 0 0))
  obtain ⟨W20, hW20⟩ : ∃ W20, (((W12.setCell ⟨w.heap.size, 0, none⟩ (.int .i64 (B : Int))).setCell ⟨w.heap.size, 1, none⟩ (.int .i64 (T : Int))).setCell ⟨w.heap.size, 2, none⟩ (.int .i64 0)).setCell ⟨w.heap.size, 3, none⟩ (.slice none 0 0) = W20 := ⟨_, rfl⟩
  rw [hW20] at X20
  have HW20 := Lib.hid hW20
  clear hW20
  have r0 : W20.cell? ⟨w.heap.size, 0, none⟩ = some (.int .i64 (B : Int)) := X20.out.cell 0 _ rfl
  have r1 : W20.cell? ⟨w.heap.size, 1, none⟩ = some (.int .i64 (T : Int)) := X20.out.cell 1 _ rfl
  have r2 : W20.cell? ⟨w.heap.size, 2, none⟩ = some (.int .i64 0) := X20.out.cell 2 _ rfl
  have r3 : W20.cell? ⟨w.heap.size, 3, none⟩ = some (.slice none 0 0) := X20.out.cell 3 _ rfl
  go_wp2_with fail
  rw [HW20.out]
  (try simp only [Exit.inBlock, Exit.then])
  refine bodyPost_ret (v := .agg #[.int .i64 (B : Int), .int .i64 (T : Int), .int .i64 0, .slice none 0 0]) (by simp [results, Tryz.results89, go_sem, r0, r1, r2, r3]) rfl ?_
  exact ⟨_, rfl, own_nil _ _ _ _, Nat.zero_le _, X20.out.rd, X20.out.keep⟩
set_option maxRecDepth 100000 in
set_option maxHeartbeats 4000000 in
theorem ri_s1_126 (h : Rd w0 w rb mb s r) {B : Nat} {q : RS} (hb : oneP s.data.toList r = (B, q)) (hB : B < 256) (hfl : floatB (B : Int) = false) (h17 : B ≠ 17) (nm ps rs : ByteArray) (hi : (opInfo (B : Int)).getD zeroI = ⟨nm, 1, ps, rs⟩) (hsm : (opInfo (B : Int)).isSome = true) (hq : q.e = 0) {T : Nat} {q1 Q : RS} (hT : oneP s.data.toList q = (T, q1)) (hT8 : T < 256) (hT0 : T = 126) (hQ : failP (T != 64 && T != 127 && T != 126) 2 (failP (T == 125 || T == 124) 3 q1) = Q) :
    Calls Tryz.prog 89 #[.pointer (some ⟨rb, 0, none⟩)] w (GotI w0 w rb mb s ⟨(B : Int), (T : Int), 0, []⟩ Q) := by
  have hz125e : ((T : Int) == 125) = false := by rw [hT0]; rfl
  have hz125n : ((T : Int) != 125) = true := by rw [hT0]; rfl
  have hz124e : ((T : Int) == 124) = false := by rw [hT0]; rfl
  have hz124n : ((T : Int) != 124) = true := by rw [hT0]; rfl
  have hz64e : ((T : Int) == 64) = false := by rw [hT0]; rfl
  have hz64n : ((T : Int) != 64) = true := by rw [hT0]; rfl
  have hz127e : ((T : Int) == 127) = false := by rw [hT0]; rfl
  have hz127n : ((T : Int) != 127) = true := by rw [hT0]; rfl
  have hz126e : ((T : Int) == 126) = true := by rw [hT0]; rfl
  have hz126n : ((T : Int) != 126) = false := by rw [hT0]; rfl
  have e1 : (T == 125 || T == 124) = false := by rw [hT0]; rfl
  have e2 : (T != 64 && T != 127 && T != 126) = false := by rw [hT0]; rfl
  rw [e1, e2] at hQ
  have HQ := Lib.hid hQ
  have HT := Lib.hid hT
  have hwt := wbyte hT8
  clear hT hQ hT0 hT8 e1 e2
  have hq17 : ((B : Int) == 17) = false := beq_eq_false_iff_ne.2 (by omega)
  have HQE := Lib.hid hq
  clear h17 hq
  have X1 := Lib.hid (XI.new h #[.int .i64 0, .int .i64 0, .int .i64 0, .slice none 0 0])
  have HONE := Lib.hid (rd_one X1.out.rd hb)
  have hwb := wbyte hB
  have HB := Lib.hid hB
  have HI := Lib.hid hi
  have HS := Lib.hid hsm
  clear h hb hB hi hsm
  go_enter Tryz.func89, Tryz.ntmps89
  go_upto_region 1 with fail
  obtain ⟨W1, hW1⟩ : ∃ W1, w.alloc (.cells #[.int .i64 0, .int .i64 0, .int .i64 0, .slice none 0 0] 33) = W1 := ⟨_, rfl⟩
  rw [hW1] at HONE X1 ⊢
  clear hW1
  go_wp2_with fail
  refine HONE.out.mono ?_
  rintro e w2 ⟨rfl, h2, k2⟩
  have X2 := Lib.hid (X1.out.step h2 k2)
  clear h2 k2
  go_wp2_with fail
  refine (float_any (B : Int) w2).mono ?_
  rintro e w3 ⟨rfl, c3⟩
  have X3 := Lib.hid (X2.out.later c3)
  clear c3
  rw [hfl]
  go_wp2_with fail
  refine (rd_fail X3.out.rd false 3).mono ?_
  rintro e w4 ⟨rfl, h4, k4⟩
  have X4 := Lib.hid (X3.out.step h4 k4)
  clear h4 k4
  go_wp2_with fail
  refine (rd_info X4.out.rd HB.out nm 1 ps rs true HI.out HS.out).mono ?_
  rintro e w5 ⟨rfl, h5, k5⟩
  have X5 := Lib.hid (X4.out.step h5 k5)
  clear h5 k5
  go_upto_region 4 with fail
  obtain ⟨W6, hW6⟩ : ∃ W6, w5.alloc (.cells #[.string nm, .int .i64 1, .string ps, .string rs] 90) = W6 := ⟨_, rfl⟩
  have B6 : Below w5.heap.size w5 W6 := by rw [← hW6]; exact (Below.refl _ _).alloc (Nat.le_refl _) _
  have i1 := cell_of_row W6 _ 1 _ _ _ (show W6.heap[w5.heap.size]? = some (.cells #[.string nm, .int .i64 1, .string ps, .string rs] 90 (0, 0)) by rw [← hW6]; exact heap_alloc_new _ _)
  have X6 := Lib.hid (X5.out.later B6)
  have z6 : w5.heap.size < W6.heap.size := by rw [← hW6]; simp
  have n6 : w.heap.size < w5.heap.size := X5.out.size
  rw [hW6]
  clear hW6 B6
  go_wp2_with fail
  refine (rd_fail X6.out.rd (!true) 2).mono ?_
  rintro e w7 ⟨rfl, h7, k7⟩
  have X7 := Lib.hid (X6.out.step h7 k7)
  replace i1 := k7.cell i1 (fun e => by have := X5.out.lt; rcases e with e | e <;> (dsimp only at e; omega))
  rw [show failP (!true) 2 (failP false 3 q) = q by rw [Bool.not_true, fail_ok, fail_ok]] at X7
  clear h7 k7
  have c2 := X7.out.rd.rd.c2
  rw [HQE.out] at c2
  have f0 := X7.out.fz 0
  have t0 := X7.out.cell 0 (.int .i64 0) rfl
  have X8 := Lib.hid (X7.out.set 0 (.int .i64 (B : Int)))
  replace i1 : (w7.setCell ⟨w.heap.size, 0, none⟩ (.int .i64 (B : Int))).cell? ⟨w5.heap.size, 1, none⟩ = _ := (Keeps.setCell (F := fun j => j = w.heap.size) w7 ⟨w.heap.size, 0, none⟩ (.int .i64 (B : Int)) rfl).cell i1 (by show ¬ w5.heap.size = w.heap.size; omega)
  obtain ⟨W8, hW8⟩ : ∃ W8, w7.setCell ⟨w.heap.size, 0, none⟩ (.int .i64 (B : Int)) = W8 := ⟨_, rfl⟩
  rw [hW8] at X8 i1
  have HW8 := Lib.hid hW8
  clear hW8
  go_upto_region 8 with fail
  rw [HW8.out]
  clear c2 f0 t0
  go_wp2_with fail
  refine (rd_one X8.out.rd HT.out).mono ?_
  rintro e w9 ⟨rfl, h9, k9⟩
  have X9 := Lib.hid (X8.out.step h9 k9)
  clear h9 k9
  go_wp2_with fail
  refine (rd_fail X9.out.rd false 3).mono ?_
  rintro e w10 ⟨rfl, h10, k10⟩
  have X10 := Lib.hid (X9.out.step h10 k10)
  clear h10 k10
  go_wp2_with fail
  refine (rd_fail X10.out.rd false 2).mono ?_
  rintro e w11 ⟨rfl, h11, k11⟩
  have X11 := Lib.hid (X10.out.step h11 k11)
  clear h11 k11
  rw [HQ.out] at X11
  have f1 := X11.out.fz 1
  have t1 := X11.out.cell 1 (.int .i64 0) rfl
  have X12 := Lib.hid (X11.out.set 1 (.int .i64 (T : Int)))
  obtain ⟨W12, hW12⟩ : ∃ W12, w11.setCell ⟨w.heap.size, 1, none⟩ (.int .i64 (T : Int)) = W12 := ⟨_, rfl⟩
  rw [hW12] at X12
  have HW12 := Lib.hid hW12
  clear hW12
  go_upto_region 29 with fail
  rw [HW12.out]
  clear f1 t1
  have f0 := X12.out.fz 0
  have f1 := X12.out.fz 1
  have f2 := X12.out.fz 2
  have f3 := X12.out.fz 3
  have t0 := X12.out.cell 0 (.int .i64 (B : Int)) rfl
  have t1 := X12.out.cell 1 (.int .i64 (T : Int)) rfl
  have t2 := X12.out.cell 2 (.int .i64 0) rfl
  have t3 := X12.out.cell 3 (.slice none 0 0) rfl
  have X20 := Lib.hid ((((X12.out.set 0 (.int .i64 (B : Int))).set 1 (.int .i64 (T : Int))).set 2 (.int .i64 0)).set 3 (.slice none 0 0))
  obtain ⟨W20, hW20⟩ : ∃ W20, (((W12.setCell ⟨w.heap.size, 0, none⟩ (.int .i64 (B : Int))).setCell ⟨w.heap.size, 1, none⟩ (.int .i64 (T : Int))).setCell ⟨w.heap.size, 2, none⟩ (.int .i64 0)).setCell ⟨w.heap.size, 3, none⟩ (.slice none 0 0) = W20 := ⟨_, rfl⟩
  rw [hW20] at X20
  have HW20 := Lib.hid hW20
  clear hW20
  have r0 : W20.cell? ⟨w.heap.size, 0, none⟩ = some (.int .i64 (B : Int)) := X20.out.cell 0 _ rfl
  have r1 : W20.cell? ⟨w.heap.size, 1, none⟩ = some (.int .i64 (T : Int)) := X20.out.cell 1 _ rfl
  have r2 : W20.cell? ⟨w.heap.size, 2, none⟩ = some (.int .i64 0) := X20.out.cell 2 _ rfl
  have r3 : W20.cell? ⟨w.heap.size, 3, none⟩ = some (.slice none 0 0) := X20.out.cell 3 _ rfl
  go_wp2_with fail
  rw [HW20.out]
  (try simp only [Exit.inBlock, Exit.then])
  refine bodyPost_ret (v := .agg #[.int .i64 (B : Int), .int .i64 (T : Int), .int .i64 0, .slice none 0 0]) (by simp [results, Tryz.results89, go_sem, r0, r1, r2, r3]) rfl ?_
  exact ⟨_, rfl, own_nil _ _ _ _, Nat.zero_le _, X20.out.rd, X20.out.keep⟩
set_option maxRecDepth 100000 in
set_option maxHeartbeats 4000000 in
theorem ri_s1_o (h : Rd w0 w rb mb s r) {B : Nat} {q : RS} (hb : oneP s.data.toList r = (B, q)) (hB : B < 256) (hfl : floatB (B : Int) = false) (h17 : B ≠ 17) (nm ps rs : ByteArray) (hi : (opInfo (B : Int)).getD zeroI = ⟨nm, 1, ps, rs⟩) (hsm : (opInfo (B : Int)).isSome = true) (hq : q.e = 0) {T : Nat} {q1 Q : RS} (hT : oneP s.data.toList q = (T, q1)) (hT8 : T < 256) (hT0 : T ≠ 125 ∧ T ≠ 124 ∧ T ≠ 64 ∧ T ≠ 127 ∧ T ≠ 126) (hQ : failP (T != 64 && T != 127 && T != 126) 2 (failP (T == 125 || T == 124) 3 q1) = Q) :
    Calls Tryz.prog 89 #[.pointer (some ⟨rb, 0, none⟩)] w (GotI w0 w rb mb s ⟨(B : Int), (T : Int), 0, []⟩ Q) := by
  have hz125e : ((T : Int) == 125) = false := beq_eq_false_iff_ne.2 (by omega)
  have hz125n : ((T : Int) != 125) = true := bne_iff_ne.2 (by omega)
  have hz124e : ((T : Int) == 124) = false := beq_eq_false_iff_ne.2 (by omega)
  have hz124n : ((T : Int) != 124) = true := bne_iff_ne.2 (by omega)
  have hz64e : ((T : Int) == 64) = false := beq_eq_false_iff_ne.2 (by omega)
  have hz64n : ((T : Int) != 64) = true := bne_iff_ne.2 (by omega)
  have hz127e : ((T : Int) == 127) = false := beq_eq_false_iff_ne.2 (by omega)
  have hz127n : ((T : Int) != 127) = true := bne_iff_ne.2 (by omega)
  have hz126e : ((T : Int) == 126) = false := beq_eq_false_iff_ne.2 (by omega)
  have hz126n : ((T : Int) != 126) = true := bne_iff_ne.2 (by omega)
  have e1 : (T == 125 || T == 124) = false := by obtain ⟨h1, h2, h3, h4, h5⟩ := hT0; simp [h1, h2, h3, h4, h5]
  have e2 : (T != 64 && T != 127 && T != 126) = true := by obtain ⟨h1, h2, h3, h4, h5⟩ := hT0; simp [h1, h2, h3, h4, h5]
  rw [e1, e2] at hQ
  have HQ := Lib.hid hQ
  have HT := Lib.hid hT
  have hwt := wbyte hT8
  clear hT hQ hT0 hT8 e1 e2
  have hq17 : ((B : Int) == 17) = false := beq_eq_false_iff_ne.2 (by omega)
  have HQE := Lib.hid hq
  clear h17 hq
  have X1 := Lib.hid (XI.new h #[.int .i64 0, .int .i64 0, .int .i64 0, .slice none 0 0])
  have HONE := Lib.hid (rd_one X1.out.rd hb)
  have hwb := wbyte hB
  have HB := Lib.hid hB
  have HI := Lib.hid hi
  have HS := Lib.hid hsm
  clear h hb hB hi hsm
  go_enter Tryz.func89, Tryz.ntmps89
  go_upto_region 1 with fail
  obtain ⟨W1, hW1⟩ : ∃ W1, w.alloc (.cells #[.int .i64 0, .int .i64 0, .int .i64 0, .slice none 0 0] 33) = W1 := ⟨_, rfl⟩
  rw [hW1] at HONE X1 ⊢
  clear hW1
  go_wp2_with fail
  refine HONE.out.mono ?_
  rintro e w2 ⟨rfl, h2, k2⟩
  have X2 := Lib.hid (X1.out.step h2 k2)
  clear h2 k2
  go_wp2_with fail
  refine (float_any (B : Int) w2).mono ?_
  rintro e w3 ⟨rfl, c3⟩
  have X3 := Lib.hid (X2.out.later c3)
  clear c3
  rw [hfl]
  go_wp2_with fail
  refine (rd_fail X3.out.rd false 3).mono ?_
  rintro e w4 ⟨rfl, h4, k4⟩
  have X4 := Lib.hid (X3.out.step h4 k4)
  clear h4 k4
  go_wp2_with fail
  refine (rd_info X4.out.rd HB.out nm 1 ps rs true HI.out HS.out).mono ?_
  rintro e w5 ⟨rfl, h5, k5⟩
  have X5 := Lib.hid (X4.out.step h5 k5)
  clear h5 k5
  go_upto_region 4 with fail
  obtain ⟨W6, hW6⟩ : ∃ W6, w5.alloc (.cells #[.string nm, .int .i64 1, .string ps, .string rs] 90) = W6 := ⟨_, rfl⟩
  have B6 : Below w5.heap.size w5 W6 := by rw [← hW6]; exact (Below.refl _ _).alloc (Nat.le_refl _) _
  have i1 := cell_of_row W6 _ 1 _ _ _ (show W6.heap[w5.heap.size]? = some (.cells #[.string nm, .int .i64 1, .string ps, .string rs] 90 (0, 0)) by rw [← hW6]; exact heap_alloc_new _ _)
  have X6 := Lib.hid (X5.out.later B6)
  have z6 : w5.heap.size < W6.heap.size := by rw [← hW6]; simp
  have n6 : w.heap.size < w5.heap.size := X5.out.size
  rw [hW6]
  clear hW6 B6
  go_wp2_with fail
  refine (rd_fail X6.out.rd (!true) 2).mono ?_
  rintro e w7 ⟨rfl, h7, k7⟩
  have X7 := Lib.hid (X6.out.step h7 k7)
  replace i1 := k7.cell i1 (fun e => by have := X5.out.lt; rcases e with e | e <;> (dsimp only at e; omega))
  rw [show failP (!true) 2 (failP false 3 q) = q by rw [Bool.not_true, fail_ok, fail_ok]] at X7
  clear h7 k7
  have c2 := X7.out.rd.rd.c2
  rw [HQE.out] at c2
  have f0 := X7.out.fz 0
  have t0 := X7.out.cell 0 (.int .i64 0) rfl
  have X8 := Lib.hid (X7.out.set 0 (.int .i64 (B : Int)))
  replace i1 : (w7.setCell ⟨w.heap.size, 0, none⟩ (.int .i64 (B : Int))).cell? ⟨w5.heap.size, 1, none⟩ = _ := (Keeps.setCell (F := fun j => j = w.heap.size) w7 ⟨w.heap.size, 0, none⟩ (.int .i64 (B : Int)) rfl).cell i1 (by show ¬ w5.heap.size = w.heap.size; omega)
  obtain ⟨W8, hW8⟩ : ∃ W8, w7.setCell ⟨w.heap.size, 0, none⟩ (.int .i64 (B : Int)) = W8 := ⟨_, rfl⟩
  rw [hW8] at X8 i1
  have HW8 := Lib.hid hW8
  clear hW8
  go_upto_region 8 with fail
  rw [HW8.out]
  clear c2 f0 t0
  go_wp2_with fail
  refine (rd_one X8.out.rd HT.out).mono ?_
  rintro e w9 ⟨rfl, h9, k9⟩
  have X9 := Lib.hid (X8.out.step h9 k9)
  clear h9 k9
  go_wp2_with fail
  refine (rd_fail X9.out.rd false 3).mono ?_
  rintro e w10 ⟨rfl, h10, k10⟩
  have X10 := Lib.hid (X9.out.step h10 k10)
  clear h10 k10
  go_wp2_with fail
  refine (rd_fail X10.out.rd true 2).mono ?_
  rintro e w11 ⟨rfl, h11, k11⟩
  have X11 := Lib.hid (X10.out.step h11 k11)
  clear h11 k11
  rw [HQ.out] at X11
  have f1 := X11.out.fz 1
  have t1 := X11.out.cell 1 (.int .i64 0) rfl
  have X12 := Lib.hid (X11.out.set 1 (.int .i64 (T : Int)))
  obtain ⟨W12, hW12⟩ : ∃ W12, w11.setCell ⟨w.heap.size, 1, none⟩ (.int .i64 (T : Int)) = W12 := ⟨_, rfl⟩
  rw [hW12] at X12
  have HW12 := Lib.hid hW12
  clear hW12
  go_upto_region 29 with fail
  rw [HW12.out]
  clear f1 t1
  have f0 := X12.out.fz 0
  have f1 := X12.out.fz 1
  have f2 := X12.out.fz 2
  have f3 := X12.out.fz 3
  have t0 := X12.out.cell 0 (.int .i64 (B : Int)) rfl
  have t1 := X12.out.cell 1 (.int .i64 (T : Int)) rfl
  have t2 := X12.out.cell 2 (.int .i64 0) rfl
  have t3 := X12.out.cell 3 (.slice none 0 0) rfl
  have X20 := Lib.hid ((((X12.out.set 0 (.int .i64 (B : Int))).set 1 (.int .i64 (T : Int))).set 2 (.int .i64 0)).set 3 (.slice none 0 0))
  obtain ⟨W20, hW20⟩ : ∃ W20, (((W12.setCell ⟨w.heap.size, 0, none⟩ (.int .i64 (B : Int))).setCell ⟨w.heap.size, 1, none⟩ (.int .i64 (T : Int))).setCell ⟨w.heap.size, 2, none⟩ (.int .i64 0)).setCell ⟨w.heap.size, 3, none⟩ (.slice none 0 0) = W20 := ⟨_, rfl⟩
  rw [hW20] at X20
  have HW20 := Lib.hid hW20
  clear hW20
  have r0 : W20.cell? ⟨w.heap.size, 0, none⟩ = some (.int .i64 (B : Int)) := X20.out.cell 0 _ rfl
  have r1 : W20.cell? ⟨w.heap.size, 1, none⟩ = some (.int .i64 (T : Int)) := X20.out.cell 1 _ rfl
  have r2 : W20.cell? ⟨w.heap.size, 2, none⟩ = some (.int .i64 0) := X20.out.cell 2 _ rfl
  have r3 : W20.cell? ⟨w.heap.size, 3, none⟩ = some (.slice none 0 0) := X20.out.cell 3 _ rfl
  go_wp2_with fail
  rw [HW20.out]
  (try simp only [Exit.inBlock, Exit.then])
  refine bodyPost_ret (v := .agg #[.int .i64 (B : Int), .int .i64 (T : Int), .int .i64 0, .slice none 0 0]) (by simp [results, Tryz.results89, go_sem, r0, r1, r2, r3]) rfl ?_
  exact ⟨_, rfl, own_nil _ _ _ _, Nat.zero_le _, X20.out.rd, X20.out.keep⟩
end Go.Proofs.YteidhccnbfikcaaGreatDoor.Dec
