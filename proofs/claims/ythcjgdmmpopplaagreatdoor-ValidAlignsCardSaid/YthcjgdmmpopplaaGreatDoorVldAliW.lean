/-
  The law of alignments: the walk. No condition beyond what each theorem names.
-/
import Derived.Test.YthcjgdmmpopplaaGreatDoorVldAli
namespace Go.Proofs.YthcjgdmmpopplaaGreatDoor.Vld
open Go.RowKit Go.Maps Go.Lib Go.Proofs.YthcjgdmmpopplaaGreatDoor.Op Go.Proofs.YthcjgdmmpopplaaGreatDoor.Mod Go.Proofs.YthcjgdmmpopplaaGreatDoor.Pg
set_option linter.unusedVariables false
theorem alignC_wf (k a : Nat) (hk : k < 12) : ∀ x ∈ alignC (opsAl.getD k 0) (a : Int), (Lit.int .i64 x.op).wf = true := by
  have h : ∀ k, k < 12 → (Lit.int .i64 (opsAl.getD k 0)).wf = true := by decide
  intro x hx
  simp only [alignC, List.mem_cons, List.mem_nil_iff, or_false] at hx
  rcases hx with rfl | rfl | rfl | rfl
  · decide
  · exact h k hk
  · decide
  · decide
theorem opsAl_at (k : Nat) (hk3 : k < 12) : (#[.int .i64 40, .int .i64 41, .int .i64 44, .int .i64 45, .int .i64 46, .int .i64 47, .int .i64 48, .int .i64 49, .int .i64 50, .int .i64 51, .int .i64 52, .int .i64 53] : Array Value)[k]? = some (.int .i64 (opsAl.getD k 0)) := by
  rcases (show k = 0 ∨ k = 1 ∨ k = 2 ∨ k = 3 ∨ k = 4 ∨ k = 5 ∨ k = 6 ∨ k = 7 ∨ k = 8 ∨ k = 9 ∨ k = 10 ∨ k = 11 by omega) with rfl | rfl | rfl | rfl | rfl | rfl | rfl | rfl | rfl | rfl | rfl | rfl <;> rfl
theorem mostAl_at (k : Nat) (hk3 : k < 12) : (#[.int .i64 2, .int .i64 3, .int .i64 0, .int .i64 0, .int .i64 1, .int .i64 1, .int .i64 0, .int .i64 0, .int .i64 1, .int .i64 1, .int .i64 2, .int .i64 2] : Array Value)[k]? = some (.int .i64 (mostAl.getD k 0)) := by
  rcases (show k = 0 ∨ k = 1 ∨ k = 2 ∨ k = 3 ∨ k = 4 ∨ k = 5 ∨ k = 6 ∨ k = 7 ∨ k = 8 ∨ k = 9 ∨ k = 10 ∨ k = 11 by omega) with rfl | rfl | rfl | rfl | rfl | rfl | rfl | rfl | rfl | rfl | rfl | rfl <;> rfl
theorem mem1_at {W : World} {b : Nat} (h : W.heap[b]? = some (.cells #[.int .i64 1, .int .i64 1] 47 (0, 0))) : MemsAt W (.slice (some ⟨b, 0, none⟩) 1 1) [⟨1, 1⟩] := by
  refine row_of_block h _ _ _ rfl (by simp) (fun i x hi => ?_)
  obtain ⟨rfl, rfl⟩ := one_row hi
  exact ⟨rfl, rfl⟩
theorem two_new {w V : World} {o1 o2 : Obj} (h : ((w.alloc o1).alloc o2) = V) : V.heap[w.heap.size]? = some o1 ∧ V.heap[w.heap.size + 1]? = some o2 ∧ Below w.heap.size w V := by
  subst h
  exact ⟨two_new0 _ _ _, by have h := heap_alloc_new (w.alloc o1) o2; rw [show (w.alloc o1).heap.size = w.heap.size + 1 by simp] at h; exact h, below2 _ _ _⟩
theorem five_new (w : World) (o1 o2 o3 o4 o5 : Obj) : ∀ V, (((((w.alloc o1).alloc o2).alloc o3).alloc o4).alloc o5) = V → V.heap[w.heap.size]? = some o1 ∧ V.heap[w.heap.size + 1]? = some o2 ∧ V.heap[w.heap.size + 1 + 1]? = some o3 ∧ V.heap[w.heap.size + 1 + 1 + 1]? = some o4 ∧ V.heap[w.heap.size + 1 + 1 + 1 + 1]? = some o5 ∧ Below w.heap.size w V := by
  rintro V rfl
  have key : ∀ (V : World) (n : Nat) (o : Obj), V.heap.size = n → (V.alloc o).heap[n]? = some o := fun V n o h => by subst h; exact heap_alloc_new V o
  have old : ∀ (V : World) (n : Nat) (o q : Obj), V.heap[n]? = some q → (V.alloc o).heap[n]? = some q := fun V n o q h => (Below.heap_alloc V o n (Array.getElem?_eq_some_iff.1 h).1).trans h
  refine ⟨old _ _ _ _ (old _ _ _ _ (old _ _ _ _ (old _ _ _ _ (key _ _ _ rfl)))), old _ _ _ _ (old _ _ _ _ (old _ _ _ _ (key _ _ _ (by simp)))), old _ _ _ _ (old _ _ _ _ (key _ _ _ (by simp))), old _ _ _ _ (key _ _ _ (by simp)), key _ _ _ (by simp), ?_⟩
  exact (((((Below.refl _ _).alloc (Nat.le_refl _) o1).alloc (by simp) o2).alloc (by simp; omega) o3).alloc (by simp; omega) o4).alloc (by simp; omega) o5
/-- a cell of a block is turned: the others are as they were -/
theorem box_other {w : World} {b g : Nat} {j : Nat} {v : Value} {o : Obj} (h : w.heap[g]? = some o) (hne : g ≠ b) : (w.setCell ⟨b, j, none⟩ v).heap[g]? = some o :=
  ((Keeps.setCell (F := fun j => j = b) w ⟨b, j, none⟩ v rfl).block g (Array.getElem?_eq_some_iff.1 h).1 hne).trans h
set_option maxRecDepth 100000 in
set_option maxHeartbeats 4000000 in
theorem aligns_walk (x y : Nat) (hx : x < 256) (hy : y < 256) (w : World) (hE : MEnv w) : Calls Tryz.prog 6 #[.int .u8 (x : Int), .int .u8 (y : Int)] w fun e w' => e = .returned (.bool true) ∧ Below w.heap.size w w' := by
  have HE := Lib.hid hE
  have HX := Lib.hid (examples07 w hE)
  clear hE
  obtain ⟨k, hk⟩ : ∃ k, x % 12 = k := ⟨_, rfl⟩
  obtain ⟨a, ha⟩ : ∃ a, y % 5 = a := ⟨_, rfl⟩
  have hk3 : k < 12 := by omega
  have ha3 : a < 5 := by omega
  have hkI : (x : Int) % 12 = (k : Int) := by omega
  have haI : (y : Int) % 5 = (a : Int) := by omega
  clear hk ha
  obtain ⟨O, hO⟩ : ∃ O, opsAl.getD k 0 = O := ⟨_, rfl⟩
  obtain ⟨M, hM⟩ : ∃ M, mostAl.getD k 0 = M := ⟨_, rfl⟩
  have HL := Lib.hid (law_align k a hk3 ha3)
  have HWf := Lib.hid (alignC_wf k a hk3)
  rw [hO] at HL HWf
  rw [hM] at HL
  have HO := Lib.hid hO
  have HM := Lib.hid hM
  clear hO hM
  go_enter Tryz.func6, Tryz.ntmps6
  go_wp2_with fail
  refine HX.out.mono ?_
  rintro e w1 ⟨rfl, c1⟩
  have C1 := Lib.hid c1
  clear c1
  go_upto_region 6 with fail
  obtain ⟨W2, hW2⟩ : ∃ W2, ((w1.alloc (.cells #[.int .i64 40, .int .i64 41, .int .i64 44, .int .i64 45, .int .i64 46, .int .i64 47, .int .i64 48, .int .i64 49, .int .i64 50, .int .i64 51, .int .i64 52, .int .i64 53] 3)).alloc (.cells #[.int .i64 2, .int .i64 3, .int .i64 0, .int .i64 0, .int .i64 1, .int .i64 1, .int .i64 0, .int .i64 0, .int .i64 1, .int .i64 1, .int .i64 2, .int .i64 2] 2)) = W2 := ⟨_, rfl⟩
  rw [hW2]
  obtain ⟨x1, x2, b2⟩ := two_new hW2
  have B2 := Lib.hid (C1.out.trans (b2.mono C1.out.size))
  have q1 : W2.cell? ⟨w1.heap.size, k, none⟩ = some (.int .i64 O) := by
    refine box_at x1 k _ ?_
    rw [← HO.out]
    exact opsAl_at k hk3
  have q2 : W2.cell? ⟨w1.heap.size + 1, k, none⟩ = some (.int .i64 M) := by
    refine box_at x2 k _ ?_
    rw [← HM.out]
    exact mostAl_at k hk3
  have Q2 := Lib.hid q2
  clear hW2 x1 x2 b2 q2
  go_wp2_with fail
  obtain ⟨y1, y2, y3, y4, y5, by5⟩ := five_new W2 _ _ _ _ _ _ rfl
  refine (func_any _ _ _ _ _ _ _ (mod1 [⟨1, 1⟩]) _ (mod1_at (bt := W2.heap.size + 1 + 1) y3 (mem1_at y4)) (HE.out.later (B2.out.trans (by5.mono B2.out.size))) (fn0 (alignC O (a : Int))) _ ((cod_block y1 (alignC O (a : Int)) 4 rfl rfl (by decide)).at (show 4 ≤ 1000000000 by decide) HWf.out) (show 0 ≤ 9223372036854775807 by decide) (show 4 ≤ 1000000 by decide)).mono ?_
  rw [HL.out.1]
  obtain ⟨R, hR⟩ : ∃ R : Int, (if (a : Int) ≤ M then (0 : Int) else 4) = R := ⟨_, rfl⟩
  rw [hR]
  have HR := Lib.hid hR
  clear hR
  rintro e w3 ⟨rfl, c3⟩
  have b3 := by5.trans (c3.mono by5.size)
  have B3 := Lib.hid (B2.out.trans (b3.mono B2.out.size))
  have Z1 := Lib.hid (box_later c3 y1)
  have Z2 := Lib.hid (box_later c3 y2)
  have Z3 := Lib.hid (box_later c3 y3)
  have Z5 := Lib.hid (box_later c3 y5)
  have q2 := cell_later b3 Q2.out
  have zf : ∀ j, w3.frozen? ⟨W2.heap.size + 1 + 1 + 1 + 1, j, none⟩ = false := fun j => frozen_of_row w3 _ j _ _ Z5.out
  have z2 := box_at Z5.out 2 _ rfl
  clear y1 y2 y3 y4 y5 by5 c3 b3 q1
  go_upto_region 12 with fail
  obtain ⟨W4, hW4⟩ : ∃ W4, w3.setCell ⟨W2.heap.size + 1 + 1 + 1 + 1, 2, none⟩ (.slice none 0 0) = W4 := ⟨_, rfl⟩
  rw [hW4]
  have h1 := box_other (b := W2.heap.size + 1 + 1 + 1 + 1) (j := 2) (v := .slice none 0 0) Z1.out (by omega)
  have h2 := box_other (b := W2.heap.size + 1 + 1 + 1 + 1) (j := 2) (v := .slice none 0 0) Z2.out (by omega)
  have h3 := box_other (b := W2.heap.size + 1 + 1 + 1 + 1) (j := 2) (v := .slice none 0 0) Z3.out (by omega)
  have h5 := box_set Z5.out 2 (.slice none 0 0)
  rw [hW4] at h1 h2 h3 h5
  have q2' : W4.cell? ⟨w1.heap.size + 1, k, none⟩ = some (.int .i64 M) := by
    rw [← hW4]
    exact (Keeps.setCell (F := fun j => j = W2.heap.size + 1 + 1 + 1 + 1) w3 ⟨W2.heap.size + 1 + 1 + 1 + 1, 2, none⟩ _ rfl).cell q2 (show ¬ w1.heap.size + 1 = W2.heap.size + 1 + 1 + 1 + 1 by have := World.block_lt_of_cell? _ _ Q2.out; simp only at this; omega)
  have B4 := Lib.hid (show Below w.heap.size w W4 by rw [← hW4]; exact B3.out.setCell (show w.heap.size ≤ W2.heap.size + 1 + 1 + 1 + 1 by have := B2.out.size; omega) _)
  have X1 := Lib.hid h1
  have X3 := Lib.hid h3
  have q0 := box_at h5 0 _ rfl
  have q1 := box_at h5 1 _ rfl
  have q3 := box_at h5 2 _ rfl
  have q4 := box_at h5 3 _ rfl
  have q5 := box_at h5 4 _ rfl
  have q6 := box_at h5 5 _ rfl
  have q7 := box_at h5 6 _ rfl
  have r0 := box_at h2 0 _ rfl
  have r1 := box_at h2 1 _ rfl
  have r2 := box_at h2 2 _ rfl
  have Q4 := Lib.hid q2'
  clear hW4 h1 h2 h3 h5 q2 q2' zf z2
  go_wp2_with fail
  refine (func_any _ _ _ _ _ _ _ (mod1 []) _ (mod1_at (bt := W2.heap.size + 1 + 1) X3.out (list_nil _)) (HE.out.later B4.out) (fn0 (alignC O (a : Int))) _ ((cod_block X1.out (alignC O (a : Int)) 4 rfl rfl (by decide)).at (show 4 ≤ 1000000000 by decide) HWf.out) (show 0 ≤ 9223372036854775807 by decide) (show 4 ≤ 1000000 by decide)).mono ?_
  rw [HL.out.2]
  rintro e w5 ⟨rfl, c5⟩
  have B5 := Lib.hid (B4.out.trans (c5.mono B4.out.size))
  have q2 := cell_later c5 Q4.out
  clear c5 q0 q1 q3 q4 q5 q6 q7 r0 r1 r2
  by_cases haM : (a : Int) ≤ M
  · have d1 : decide ((a : Int) ≤ M) = true := decide_eq_true haM
    obtain rfl : R = 0 := by rw [← HR.out, if_pos haM]
    go_wp2_with fail
    go_ret
    exact ⟨rfl, B5.out⟩
  · have d1 : decide ((a : Int) ≤ M) = false := decide_eq_false haM
    obtain rfl : R = 4 := by rw [← HR.out, if_neg haM]
    go_wp2_with fail
    go_ret
    exact ⟨rfl, B5.out⟩
end Go.Proofs.YthcjgdmmpopplaaGreatDoor.Vld
