/-
  DecSec, DecM0, DecN, DecEx in one.
-/
import Derived.Test.YteidhccnbfikcaaGreatDoorDeB
import Derived.Laws.EntriesVeiled
import Derived.Maps.Own
import Derived.Maps.OwnSet
import Derived.Test.YteidhccnbfikcaaGreatDoorDecK
import Derived.Test.YteidhccnbfikcaaGreatDoorRg
/- DecSec: The map of sections that dec makes. No condition beyond what each theorem names. -/
namespace Go.Proofs.YteidhccnbfikcaaGreatDoor.Dec
open Go.RowKit Go.Maps Go.Proofs.YteidhccnbfikcaaGreatDoor.Op Go.Proofs.YteidhccnbfikcaaGreatDoor.Mod Go.Proofs.YteidhccnbfikcaaGreatDoor.Leb Go.Proofs.YteidhccnbfikcaaGreatDoor.Enc
set_option linter.unusedVariables false
set_option linter.unusedSimpArgs false
theorem keyed_u8 : Keyed Tryz.prog 5 := int_keyed Tryz.underlying5
theorem key_u8 (a : Int) (h : (Lit.int .u8 a).wf = true) : keyOf Tryz.prog 5 (.int .u8 a) = some (.int .u8 a) := keyOf_int_mk Tryz.underlying5 h
/-- the map that sections makes -/
def secD : DataW Value := (DataW.put (DataW.put (DataW.put (DataW.put (DataW.put (DataW.put (DataW.put (DataW.put (.map []) (.int .u8 1) (.held (.func (.func 140) #[] #[]))) (.int .u8 3) (.held (.func (.func 141) #[] #[]))) (.int .u8 5) (.held (.func (.func 142) #[] #[]))) (.int .u8 6) (.held (.func (.func 143) #[] #[]))) (.int .u8 7) (.held (.func (.func 144) #[] #[]))) (.int .u8 8) (.held (.func (.func 145) #[] #[]))) (.int .u8 10) (.held (.func (.func 146) #[] #[]))) (.int .u8 11) (.held (.func (.func 147) #[] #[])))
/-- the reader of a section, by its number -/
def secF (id : Nat) : Option Nat := if id = 1 then some 140 else if id = 3 then some 141 else if id = 5 then some 142 else if id = 6 then some 143 else if id = 7 then some 144 else if id = 8 then some 145 else if id = 10 then some 146 else if id = 11 then some 147 else none
def SecAt (w : World) (b : Nat) : Prop := ∃ n, w.ownsMap Tryz.prog 5 asIs b n secD
set_option maxRecDepth 100000 in
set_option maxHeartbeats 1000000 in
theorem sections_any (w : World) : Calls Tryz.prog 73 #[] w fun e w' => ∃ b, e = .returned (.map (some b)) ∧ SecAt w' b ∧ w.heap.size ≤ b ∧ Below w.heap.size w w' := by
  have hmm := @run_makeMap Tryz.prog
  have h0 := World.ownsMap_made w Tryz.prog 5 asIs
  have b0 : Below w.heap.size w (w.alloc (.map #[] 0)) := (Below.refl _ _).alloc (Nat.le_refl _) _
  go_enter Tryz.func73, Tryz.ntmps73
  go_wp2_with fail
  obtain ⟨w1, hrun, h1, g1⟩ := h0.update (val := .func (.func 140) #[] #[]) keyed_u8 Tryz.underlying141 (by decide) (key_u8 1 (by decide)) rfl
  have b1 := b0.grown g1 (by have := b0.size; omega) (fun k hk => by cases hk; exact Nat.le_refl _)
  clear h0 g1 b0
  rw [hrun]
  clear hrun
  go_wp2_with fail
  obtain ⟨w2, hrun, h2, g2⟩ := h1.update (val := .func (.func 141) #[] #[]) keyed_u8 Tryz.underlying141 (by decide) (key_u8 3 (by decide)) rfl
  have b2 := b1.grown g2 (by have := b1.size; omega) (fun k hk => by cases hk; exact Nat.le_refl _)
  clear h1 g2 b1
  rw [hrun]
  clear hrun
  go_wp2_with fail
  obtain ⟨w3, hrun, h3, g3⟩ := h2.update (val := .func (.func 142) #[] #[]) keyed_u8 Tryz.underlying141 (by decide) (key_u8 5 (by decide)) rfl
  have b3 := b2.grown g3 (by have := b2.size; omega) (fun k hk => by cases hk; exact Nat.le_refl _)
  clear h2 g3 b2
  rw [hrun]
  clear hrun
  go_wp2_with fail
  obtain ⟨w4, hrun, h4, g4⟩ := h3.update (val := .func (.func 143) #[] #[]) keyed_u8 Tryz.underlying141 (by decide) (key_u8 6 (by decide)) rfl
  have b4 := b3.grown g4 (by have := b3.size; omega) (fun k hk => by cases hk; exact Nat.le_refl _)
  clear h3 g4 b3
  rw [hrun]
  clear hrun
  go_wp2_with fail
  obtain ⟨w5, hrun, h5, g5⟩ := h4.update (val := .func (.func 144) #[] #[]) keyed_u8 Tryz.underlying141 (by decide) (key_u8 7 (by decide)) rfl
  have b5 := b4.grown g5 (by have := b4.size; omega) (fun k hk => by cases hk; exact Nat.le_refl _)
  clear h4 g5 b4
  rw [hrun]
  clear hrun
  go_wp2_with fail
  obtain ⟨w6, hrun, h6, g6⟩ := h5.update (val := .func (.func 145) #[] #[]) keyed_u8 Tryz.underlying141 (by decide) (key_u8 8 (by decide)) rfl
  have b6 := b5.grown g6 (by have := b5.size; omega) (fun k hk => by cases hk; exact Nat.le_refl _)
  clear h5 g6 b5
  rw [hrun]
  clear hrun
  go_wp2_with fail
  obtain ⟨w7, hrun, h7, g7⟩ := h6.update (val := .func (.func 146) #[] #[]) keyed_u8 Tryz.underlying141 (by decide) (key_u8 10 (by decide)) rfl
  have b7 := b6.grown g7 (by have := b6.size; omega) (fun k hk => by cases hk; exact Nat.le_refl _)
  clear h6 g7 b6
  rw [hrun]
  clear hrun
  go_wp2_with fail
  obtain ⟨w8, hrun, h8, g8⟩ := h7.update (val := .func (.func 147) #[] #[]) keyed_u8 Tryz.underlying141 (by decide) (key_u8 11 (by decide)) rfl
  have b8 := b7.grown g8 (by have := b7.size; omega) (fun k hk => by cases hk; exact Nat.le_refl _)
  clear h7 g8 b7
  rw [hrun]
  clear hrun
  go_wp2_with fail
  go_ret
  exact ⟨w.heap.size, rfl, ⟨_, h8⟩, Nat.le_refl _, b8⟩
end Go.Proofs.YteidhccnbfikcaaGreatDoor.Dec

/- DecM0: What dec.Module reads of no bytes, and of the first eight alone; HasPrefix. No condition beyond what each theorem names. -/
namespace Go.Proofs.YteidhccnbfikcaaGreatDoor.Dec
open Go.RowKit Go.Maps Go.Proofs.YteidhccnbfikcaaGreatDoor.Op Go.Proofs.YteidhccnbfikcaaGreatDoor.Mod Go.Proofs.YteidhccnbfikcaaGreatDoor.Leb Go.Proofs.YteidhccnbfikcaaGreatDoor.Enc
set_option linter.unusedVariables false
set_option linter.unusedSimpArgs false
theorem alloc_keep {W : World} {o x : Obj} {j : Nat} (h : W.heap[j]? = some x) : (W.alloc o).heap[j]? = some x := (((Below.refl W.heap.size W).alloc (Nat.le_refl _) o).block j (Array.getElem?_eq_some_iff.1 h).1).trans h
theorem cut_pre (s : ByteArray) (n : Nat) (h : n ≤ s.size) (W : World) : (Instr.slice 9 (.string s) none (some (.int .i64 (n : Int))) none).run Tryz.prog W = .ok (.string (s.extract 0 n)) W := by
  have ht := Tryz.underlying9
  have h1 : (0 : Int) ≤ (n : Int) := by omega
  have h2 : (n : Int) ≤ (s.size : Int) := by omega
  simp [Instr.slice, run_underlying ht, Instr.sliceBounds, run_sliceBound, *]
set_option maxRecDepth 100000 in
set_option maxHeartbeats 1000000 in
theorem lite_long (s p : ByteArray) (w : World) (hs : p.size ≤ s.size) (c : Bool) (hc : ((s.extract 0 p.size).toList == p.toList) = c) :
    Calls Tryz.prog 139 #[.string s, .string p] w fun e w' => e = .returned (.bool c) ∧ w = w' := by
  have hcut := cut_pre s p.size hs
  obtain ⟨T, hT⟩ : ∃ T, s.extract 0 p.size = T := ⟨_, rfl⟩
  rw [hT] at hc hcut
  have hd : decide ((p.size : Int) ≤ (s.size : Int)) = true := decide_eq_true (by omega)
  have hd2 : decide (p.size ≤ s.size) = true := decide_eq_true hs
  clear hT hs
  go_enter Tryz.func139, Tryz.ntmps139
  go_wp2_with fail
  go_ret
  exact ⟨rfl, rfl⟩
set_option maxRecDepth 100000 in
set_option maxHeartbeats 1000000 in
theorem lite_short (s p : ByteArray) (w : World) (hs : s.size < p.size) :
    Calls Tryz.prog 139 #[.string s, .string p] w fun e w' => e = .returned (.bool false) ∧ w = w' := by
  have hd : decide ((p.size : Int) ≤ (s.size : Int)) = false := decide_eq_false (by omega)
  have hd2 : decide (p.size ≤ s.size) = false := decide_eq_false (by omega)
  clear hs
  go_enter Tryz.func139, Tryz.ntmps139
  go_wp2_with fail
  go_ret
  exact ⟨rfl, rfl⟩
theorem prefix_any (s p : ByteArray) (w : World) (c : Bool) (hc : (decide (p.size ≤ s.size) && ((s.extract 0 p.size).toList == p.toList)) = c) :
    Calls Tryz.prog 72 #[.string s, .string p] w fun e w' => e = .returned (.bool c) ∧ w = w' := by
  have HC : Calls Tryz.prog 139 #[.string s, .string p] w fun e w' => e = .returned (.bool c) ∧ w = w' := by
    by_cases hs : p.size ≤ s.size
    · rw [decide_eq_true hs, Bool.true_and] at hc
      exact lite_long s p w hs c hc
    · rw [decide_eq_false hs, Bool.false_and] at hc
      subst hc
      exact lite_short s p w (by omega)
  have H := Lib.hid HC
  clear hc HC
  go_enter Tryz.func72, Tryz.ntmps72
  go_wp2_with fail
  refine H.out.mono ?_
  rintro e w2 ⟨rfl, rfl⟩
  go_wp2_with fail
  go_ret
  exact ⟨rfl, rfl⟩
set_option maxRecDepth 100000 in
set_option maxHeartbeats 4000000 in
theorem module_nil (w : World) :
    Calls Tryz.prog 15 #[.string ⟨#[]⟩] w fun e w' => e = .returned (.tuple #[.agg #[.slice none 0 0, .slice none 0 0, .slice none 0 0, .slice none 0 0, .slice none 0 0, .int .i64 0, .slice none 0 0], .int .i64 2]) ∧ Below w.heap.size w w' := by
  obtain ⟨W1, hW1⟩ : ∃ W1, w.alloc (.cells #[.slice none 0 0, .slice none 0 0, .slice none 0 0, .slice none 0 0, .slice none 0 0, .int .i64 0, .slice none 0 0] 29) = W1 := ⟨_, rfl⟩
  have B1 := Lib.hid (show Below w.heap.size w W1 by rw [← hW1]; exact (Below.refl _ _).alloc (Nat.le_refl _) _)
  have R1 := Lib.hid (show W1.heap[w.heap.size]? = some (.cells #[.slice none 0 0, .slice none 0 0, .slice none 0 0, .slice none 0 0, .slice none 0 0, .int .i64 0, .slice none 0 0] 29 (0, 0)) by rw [← hW1]; exact heap_alloc_new _ _)
  have HW1 := Lib.hid hW1
  clear hW1
  go_enter Tryz.func15, Tryz.ntmps15
  go_upto_region 1 with fail
  rw [HW1.out]
  have hp := Lib.hid (prefix_any ⟨#[]⟩ ⟨#[0, 97, 115, 109, 1, 0, 0, 0]⟩ W1 false (by kernel_rfl))
  go_wp2_with fail
  refine hp.out.mono ?_
  rintro e w2 ⟨rfl, rfl⟩
  have f0 := frozen_of_row W1 _ 0 _ _ R1.out
  have f1 := frozen_of_row W1 _ 1 _ _ R1.out
  have f2 := frozen_of_row W1 _ 2 _ _ R1.out
  have f3 := frozen_of_row W1 _ 3 _ _ R1.out
  have f4 := frozen_of_row W1 _ 4 _ _ R1.out
  have f5 := frozen_of_row W1 _ 5 _ _ R1.out
  have f6 := frozen_of_row W1 _ 6 _ _ R1.out
  have t0 : W1.cell? ⟨w.heap.size, 0, none⟩ = some (.slice none 0 0) := cell_of_row W1 _ 0 _ _ _ R1.out
  have t1 : W1.cell? ⟨w.heap.size, 1, none⟩ = some (.slice none 0 0) := cell_of_row W1 _ 1 _ _ _ R1.out
  have t2 : W1.cell? ⟨w.heap.size, 2, none⟩ = some (.slice none 0 0) := cell_of_row W1 _ 2 _ _ _ R1.out
  have t3 : W1.cell? ⟨w.heap.size, 3, none⟩ = some (.slice none 0 0) := cell_of_row W1 _ 3 _ _ _ R1.out
  have t4 : W1.cell? ⟨w.heap.size, 4, none⟩ = some (.slice none 0 0) := cell_of_row W1 _ 4 _ _ _ R1.out
  have t5 : W1.cell? ⟨w.heap.size, 5, none⟩ = some (.int .i64 0) := cell_of_row W1 _ 5 _ _ _ R1.out
  have t6 : W1.cell? ⟨w.heap.size, 6, none⟩ = some (.slice none 0 0) := cell_of_row W1 _ 6 _ _ _ R1.out
  obtain ⟨W9, hW9⟩ : ∃ W9, ((((((W1.setCell ⟨w.heap.size, 0, none⟩ (.slice none 0 0)).setCell ⟨w.heap.size, 1, none⟩ (.slice none 0 0)).setCell ⟨w.heap.size, 2, none⟩ (.slice none 0 0)).setCell ⟨w.heap.size, 3, none⟩ (.slice none 0 0)).setCell ⟨w.heap.size, 4, none⟩ (.slice none 0 0)).setCell ⟨w.heap.size, 5, none⟩ (.int .i64 0)).setCell ⟨w.heap.size, 6, none⟩ (.slice none 0 0) = W9 := ⟨_, rfl⟩
  have R9 : W9.heap[w.heap.size]? = some (.cells #[.slice none 0 0, .slice none 0 0, .slice none 0 0, .slice none 0 0, .slice none 0 0, .int .i64 0, .slice none 0 0] 29 (0, 0)) := by rw [← hW9]; exact (box_set (box_set (box_set (box_set (box_set (box_set (box_set R1.out 0 _) 1 _) 2 _) 3 _) 4 _) 5 _) 6 _)
  have B9 := Lib.hid (show Below w.heap.size w W9 from B1.out.trans (Keeps.below (F := fun j => j = w.heap.size) (by rw [← hW9]; exact (Enc.keeps_then (Enc.keeps_then (Enc.keeps_then (Enc.keeps_then (Enc.keeps_then (Enc.keeps_then (Keeps.setCell (F := fun j => j = w.heap.size) _ _ _ rfl) (Keeps.setCell _ _ _ rfl)) (Keeps.setCell _ _ _ rfl)) (Keeps.setCell _ _ _ rfl)) (Keeps.setCell _ _ _ rfl)) (Keeps.setCell _ _ _ rfl)) (Keeps.setCell _ _ _ rfl))) (fun j hj => by omega) B1.out.size))
  have HW9 := Lib.hid hW9
  clear hW9
  have r0 : W9.cell? ⟨w.heap.size, 0, none⟩ = some (.slice none 0 0) := cell_of_row W9 _ 0 _ _ _ R9
  have r1 : W9.cell? ⟨w.heap.size, 1, none⟩ = some (.slice none 0 0) := cell_of_row W9 _ 1 _ _ _ R9
  have r2 : W9.cell? ⟨w.heap.size, 2, none⟩ = some (.slice none 0 0) := cell_of_row W9 _ 2 _ _ _ R9
  have r3 : W9.cell? ⟨w.heap.size, 3, none⟩ = some (.slice none 0 0) := cell_of_row W9 _ 3 _ _ _ R9
  have r4 : W9.cell? ⟨w.heap.size, 4, none⟩ = some (.slice none 0 0) := cell_of_row W9 _ 4 _ _ _ R9
  have r5 : W9.cell? ⟨w.heap.size, 5, none⟩ = some (.int .i64 0) := cell_of_row W9 _ 5 _ _ _ R9
  have r6 : W9.cell? ⟨w.heap.size, 6, none⟩ = some (.slice none 0 0) := cell_of_row W9 _ 6 _ _ _ R9
  go_wp2_with fail
  rw [HW9.out]
  (try simp only [Exit.inBlock, Exit.then])
  refine bodyPost_ret (v := .tuple #[.agg #[.slice none 0 0, .slice none 0 0, .slice none 0 0, .slice none 0 0, .slice none 0 0, .int .i64 0, .slice none 0 0], .int .i64 2]) (by simp [results, Tryz.results15, go_sem, r0, r1, r2, r3, r4, r5, r6]) rfl ?_
  exact ⟨rfl, B9.out⟩
set_option maxRecDepth 100000 in
set_option maxHeartbeats 4000000 in
theorem module_magic (w : World) :
    Calls Tryz.prog 15 #[.string ⟨#[0, 97, 115, 109, 1, 0, 0, 0]⟩] w fun e w' => e = .returned (.tuple #[.agg #[.slice none 0 0, .slice none 0 0, .slice none 0 0, .slice none 0 0, .slice none 0 0, .int .i64 (-1), .slice none 0 0], .int .i64 0]) ∧ Below w.heap.size w w' := by
  obtain ⟨W1, hW1⟩ : ∃ W1, w.alloc (.cells #[.slice none 0 0, .slice none 0 0, .slice none 0 0, .slice none 0 0, .slice none 0 0, .int .i64 0, .slice none 0 0] 29) = W1 := ⟨_, rfl⟩
  have B1 := Lib.hid (show Below w.heap.size w W1 by rw [← hW1]; exact (Below.refl _ _).alloc (Nat.le_refl _) _)
  have R1 := Lib.hid (show W1.heap[w.heap.size]? = some (.cells #[.slice none 0 0, .slice none 0 0, .slice none 0 0, .slice none 0 0, .slice none 0 0, .int .i64 0, .slice none 0 0] 29 (0, 0)) by rw [← hW1]; exact heap_alloc_new _ _)
  have HW1 := Lib.hid hW1
  clear hW1
  go_enter Tryz.func15, Tryz.ntmps15
  go_upto_region 1 with fail
  rw [HW1.out]
  have hp := Lib.hid (prefix_any ⟨#[0, 97, 115, 109, 1, 0, 0, 0]⟩ ⟨#[0, 97, 115, 109, 1, 0, 0, 0]⟩ W1 true (by kernel_rfl))
  have hmm := @run_makeMap Tryz.prog
  go_wp2_with fail
  refine hp.out.mono ?_
  rintro e w2 ⟨rfl, rfl⟩
  go_upto_region 7 with fail
  obtain ⟨W2, hW2⟩ : ∃ W2, (((W1.alloc (.map #[] 0)).alloc (.cells #[.string ⟨#[0, 97, 115, 109, 1, 0, 0, 0]⟩, .int .i64 8, .int .i64 0, .map (some W1.heap.size)] 137)).alloc (.cells #[.slice none 0 0, .slice none 0 0, .slice none 0 0, .slice none 0 0, .slice none 0 0, .int .i64 (-1), .slice none 0 0, .slice none 0 0] 140)).alloc (.cells #[.pointer (some ⟨W1.heap.size + 1 + 1, 0, none⟩)] 138) = W2 := ⟨_, rfl⟩
  have n1 : w.heap.size < W1.heap.size := (Array.getElem?_eq_some_iff.1 R1.out).1
  have o1 : Below W1.heap.size W1 W2 := by rw [← hW2]; exact ((((Below.refl _ _).alloc (Nat.le_refl _) _).alloc (by simp) _).alloc (by simp; omega) _).alloc (by simp; omega) _
  have rowR : W2.heap[W1.heap.size + 1]? = some (.cells #[.string ⟨#[0, 97, 115, 109, 1, 0, 0, 0]⟩, .int .i64 8, .int .i64 0, .map (some W1.heap.size)] 137 (0, 0)) := by
    rw [← hW2]
    have h9 := heap_alloc_new (W1.alloc (.map #[] 0)) (.cells #[.string ⟨#[0, 97, 115, 109, 1, 0, 0, 0]⟩, .int .i64 8, .int .i64 0, .map (some W1.heap.size)] 137)
    rw [show (W1.alloc (.map #[] 0)).heap.size = W1.heap.size + 1 by simp] at h9
    exact alloc_keep (alloc_keep h9)
  have rowB : W2.heap[W1.heap.size + 1 + 1]? = some (.cells #[.slice none 0 0, .slice none 0 0, .slice none 0 0, .slice none 0 0, .slice none 0 0, .int .i64 (-1), .slice none 0 0, .slice none 0 0] 140 (0, 0)) := by
    rw [← hW2]
    have h9 := heap_alloc_new ((W1.alloc (.map #[] 0)).alloc (.cells #[.string ⟨#[0, 97, 115, 109, 1, 0, 0, 0]⟩, .int .i64 8, .int .i64 0, .map (some W1.heap.size)] 137)) (.cells #[.slice none 0 0, .slice none 0 0, .slice none 0 0, .slice none 0 0, .slice none 0 0, .int .i64 (-1), .slice none 0 0, .slice none 0 0] 140)
    rw [show ((W1.alloc (.map #[] 0)).alloc (.cells #[.string ⟨#[0, 97, 115, 109, 1, 0, 0, 0]⟩, .int .i64 8, .int .i64 0, .map (some W1.heap.size)] 137)).heap.size = W1.heap.size + 1 + 1 by simp] at h9
    exact alloc_keep h9
  have rowP : W2.heap[W1.heap.size + 1 + 1 + 1]? = some (.cells #[.pointer (some ⟨W1.heap.size + 1 + 1, 0, none⟩)] 138 (0, 0)) := by
    rw [← hW2]
    have h9 := heap_alloc_new (((W1.alloc (.map #[] 0)).alloc (.cells #[.string ⟨#[0, 97, 115, 109, 1, 0, 0, 0]⟩, .int .i64 8, .int .i64 0, .map (some W1.heap.size)] 137)).alloc (.cells #[.slice none 0 0, .slice none 0 0, .slice none 0 0, .slice none 0 0, .slice none 0 0, .int .i64 (-1), .slice none 0 0, .slice none 0 0] 140)) (.cells #[.pointer (some ⟨W1.heap.size + 1 + 1, 0, none⟩)] 138)
    rw [show (((W1.alloc (.map #[] 0)).alloc (.cells #[.string ⟨#[0, 97, 115, 109, 1, 0, 0, 0]⟩, .int .i64 8, .int .i64 0, .map (some W1.heap.size)] 137)).alloc (.cells #[.slice none 0 0, .slice none 0 0, .slice none 0 0, .slice none 0 0, .slice none 0 0, .int .i64 (-1), .slice none 0 0, .slice none 0 0] 140)).heap.size = W1.heap.size + 1 + 1 + 1 by simp] at h9
    exact h9
  have row0 := (o1.block w.heap.size n1).trans R1.out
  have B2 := Lib.hid (B1.out.trans (o1.mono B1.out.size))
  rw [hW2]
  generalize W1.heap.size = mb at *
  obtain ⟨rb, hrb⟩ : ∃ rb, mb + 1 = rb := ⟨_, rfl⟩
  obtain ⟨bb, hbb⟩ : ∃ bb, rb + 1 = bb := ⟨_, rfl⟩
  obtain ⟨pb, hpb⟩ : ∃ pb, bb + 1 = pb := ⟨_, rfl⟩
  rw [hrb] at rowR rowB rowP ⊢
  rw [hbb] at rowB rowP ⊢
  rw [hpb] at rowP ⊢
  have NE := Lib.hid (show bb ≠ rb ∧ pb ≠ rb ∧ w.heap.size ≠ rb ∧ w.heap.size ≠ bb ∧ w.heap.size < rb from ⟨by omega, by omega, by omega, by omega, by omega⟩)
  have R2 := Lib.hid (And.intro rowR (And.intro rowB (And.intro rowP row0)))
  clear hW2 n1 o1 rowR rowB rowP row0 hrb hbb hpb R1 B1 HW1 hmm
  go_wp2_with fail
  refine (sections_any W2).mono ?_
  rintro e w3 ⟨sb, rfl, _, _, c3⟩
  have lt2 : ∀ {j : Nat} {o : Obj}, W2.heap[j]? = some o → w3.heap[j]? = some o := fun {j} {o} h => (c3.block j (Array.getElem?_eq_some_iff.1 h).1).trans h
  have R3 := Lib.hid (And.intro (lt2 R2.out.1) (And.intro (lt2 R2.out.2.1) (And.intro (lt2 R2.out.2.2.1) (lt2 R2.out.2.2.2))))
  have B3 := Lib.hid (B2.out.trans (c3.mono B2.out.size))
  clear c3 lt2
  have a1 : w3.cell? ⟨rb, 1, none⟩ = some (.int .i64 8) := cell_of_row w3 _ 1 _ _ _ R3.out.1
  have a2 : w3.cell? ⟨rb, 2, none⟩ = some (.int .i64 0) := cell_of_row w3 _ 2 _ _ _ R3.out.1
  go_wp2_with fail
  refine wp_loop_rounds 1 ?_
  rw [rounds_succ]
  go_upto_region 20 with fail
  have p0 : w3.cell? ⟨pb, 0, none⟩ = some (.pointer (some ⟨bb, 0, none⟩)) := cell_of_row w3 _ 0 _ _ _ R3.out.2.2.1
  have p7 : w3.cell? ⟨bb, 7, none⟩ = some (.slice none 0 0) := cell_of_row w3 _ 7 _ _ _ R3.out.2.1
  have p1 : w3.cell? ⟨bb, 1, none⟩ = some (.slice none 0 0) := cell_of_row w3 _ 1 _ _ _ R3.out.2.1
  clear a1 a2
  refine wp_region_held_drew (S := fun W => W.cell? ⟨pb, 0, none⟩ = some (.pointer (some ⟨bb, 0, none⟩)) ∧ W.cell? ⟨bb, 7, none⟩ = some (.slice none 0 0) ∧ W.cell? ⟨bb, 1, none⟩ = some (.slice none 0 0) ∧ W.heap[rb]? = some (.cells (boxR ⟨#[0, 97, 115, 109, 1, 0, 0, 0]⟩ (some mb) ⟨8, 0⟩) 137 (0, 0)) ∧ W.heap[bb]? = some (.cells #[.slice none 0 0, .slice none 0 0, .slice none 0 0, .slice none 0 0, .slice none 0 0, .int .i64 (-1), .slice none 0 0, .slice none 0 0] 140 (0, 0)) ∧ W.heap[pb]? = some (.cells #[.pointer (some ⟨bb, 0, none⟩)] 138 (0, 0)) ∧ W.heap[w.heap.size]? = some (.cells #[.slice none 0 0, .slice none 0 0, .slice none 0 0, .slice none 0 0, .slice none 0 0, .int .i64 0, .slice none 0 0] 29 (0, 0)) ∧ Below w.heap.size w W) (by kernel_rfl) ⟨p0, p7, p1, R3.out.1, R3.out.2.1, R3.out.2.2.1, R3.out.2.2.2, B3.out.drew⟩ (fun hHeld => ?_)
  refine take_yes (i := 0) (d := (some 99)) (v := ?_) rfl (by kernel_rfl) (by kernel_rfl) (by kernel_rfl) rfl (fun _ _ _ h => h) (by rfl) (by assumption) ?_ ?_
  rotate_left
  · (intro w hSw; (try dsimp only at hSw); go_simp; try with_reducible rfl)
  try simp only [Act.put, List.setIfInBounds_toArray, List.set_cons_zero, List.set_cons_succ]
  refine take_yes (i := 1) (d := (some 100)) (v := ?_) rfl (by kernel_rfl) (by kernel_rfl) (by kernel_rfl) rfl (fun _ _ _ h => h) (by rfl) (by assumption) ?_ ?_
  rotate_left
  · (intro w hSw; (try dsimp only at hSw); go_simp; try with_reducible rfl)
  try simp only [Act.put, List.setIfInBounds_toArray, List.set_cons_zero, List.set_cons_succ]
  refine take_yes (i := 2) (d := (some 101)) (v := ?_) rfl (by kernel_rfl) (by kernel_rfl) (by kernel_rfl) rfl (fun _ _ _ h => h) (by rfl) (by assumption) ?_ ?_
  rotate_left
  · (intro w hSw; (try dsimp only at hSw); go_simp; try with_reducible rfl)
  try simp only [Act.put, List.setIfInBounds_toArray, List.set_cons_zero, List.set_cons_succ]
  refine take_yes (i := 3) (d := (some 102)) (v := ?_) rfl (by kernel_rfl) (by kernel_rfl) (by kernel_rfl) rfl (fun _ _ _ h => h) (by rfl) (by assumption) ?_ ?_
  rotate_left
  · (intro w hSw; (try dsimp only at hSw); go_simp; try with_reducible rfl)
  try simp only [Act.put, List.setIfInBounds_toArray, List.set_cons_zero, List.set_cons_succ]
  refine take_yes (i := 4) (d := (some 103)) (v := ?_) rfl (by kernel_rfl) (by kernel_rfl) (by kernel_rfl) rfl (fun _ _ _ h => h) (by rfl) (by assumption) ?_ ?_
  rotate_left
  · (intro w hSw; (try dsimp only at hSw); go_simp; try with_reducible rfl)
  try simp only [Act.put, List.setIfInBounds_toArray, List.set_cons_zero, List.set_cons_succ]
  refine take_yes (i := 5) (d := (some 104)) (v := ?_) rfl (by kernel_rfl) (by kernel_rfl) (by kernel_rfl) rfl (fun _ _ _ h => h) (by rfl) (by assumption) ?_ ?_
  rotate_left
  · (intro w hSw; (try dsimp only at hSw); go_simp; try with_reducible rfl)
  try simp only [Act.put, List.setIfInBounds_toArray, List.set_cons_zero, List.set_cons_succ]
  refine take_yes (i := 6) (d := (some 105)) (v := ?_) rfl (by kernel_rfl) (by kernel_rfl) (by kernel_rfl) rfl (fun _ _ _ h => h) (by rfl) (by assumption) ?_ ?_
  rotate_left
  · (intro w hSw; (try dsimp only at hSw); go_simp; try with_reducible rfl)
  try simp only [Act.put, List.setIfInBounds_toArray, List.set_cons_zero, List.set_cons_succ]
  refine take_yes (i := 7) (d := (some 106)) (v := ?_) rfl (by kernel_rfl) (by kernel_rfl) (by kernel_rfl) rfl (fun _ _ _ h => h) (by rfl) (by assumption) ?_ ?_
  rotate_left
  · (intro w hSw; (try dsimp only at hSw); go_simp; try with_reducible rfl)
  try simp only [Act.put, List.setIfInBounds_toArray, List.set_cons_zero, List.set_cons_succ]
  refine take_yes (i := 8) (d := (some 107)) (v := ?_) rfl (by kernel_rfl) (by kernel_rfl) (by kernel_rfl) rfl (fun _ _ _ h => h) (by rfl) (by assumption) ?_ ?_
  rotate_left
  · (intro w hSw; (try dsimp only at hSw); go_simp; try with_reducible rfl)
  try simp only [Act.put, List.setIfInBounds_toArray, List.set_cons_zero, List.set_cons_succ]
  refine take_yes (i := 9) (d := (some 108)) (v := ?_) rfl (by kernel_rfl) (by kernel_rfl) (by kernel_rfl) rfl (fun _ _ _ h => h) (by rfl) (by assumption) ?_ ?_
  rotate_left
  · (intro w hSw; (try dsimp only at hSw); go_simp; try with_reducible rfl)
  try simp only [Act.put, List.setIfInBounds_toArray, List.set_cons_zero, List.set_cons_succ]
  refine take_yes (i := 10) (d := (some 109)) (v := ?_) rfl (by kernel_rfl) (by kernel_rfl) (by kernel_rfl) rfl (fun _ _ _ h => h) (by rfl) (by assumption) ?_ ?_
  rotate_left
  · (intro w hSw; (try dsimp only at hSw); go_simp; try with_reducible rfl)
  try simp only [Act.put, List.setIfInBounds_toArray, List.set_cons_zero, List.set_cons_succ]
  refine take_yes (i := 11) (d := (some 110)) (v := ?_) rfl (by kernel_rfl) (by kernel_rfl) (by kernel_rfl) rfl (fun _ _ _ h => h) (by rfl) (by assumption) ?_ ?_
  rotate_left
  · (intro w hSw; (try dsimp only at hSw); go_simp; try with_reducible rfl)
  try simp only [Act.put, List.setIfInBounds_toArray, List.set_cons_zero, List.set_cons_succ]
  refine take_yes (i := 12) (d := (some 111)) (v := ?_) rfl (by kernel_rfl) (by kernel_rfl) (by kernel_rfl) rfl (fun _ _ _ h => h) (by rfl) (by assumption) ?_ ?_
  rotate_left
  · (intro w hSw; (try dsimp only at hSw); go_simp; try with_reducible rfl)
  try simp only [Act.put, List.setIfInBounds_toArray, List.set_cons_zero, List.set_cons_succ]
  refine wpAnyH_ready (rs := [13]) (by kernel_rfl) (by simp) ?_
  refine AllReadyH.cons (o := _) rfl (fun K hK => ?_) AllReadyH.nil
  go_simp
  go_at_call 75
  refine (fail_any false 2 _ (RdAt.mk hHeld.2.2.2.1)).mono ?_
  rintro en W6 ⟨rfl, h6, k6⟩
  rw [fail_no (.inl rfl)] at h6
  have kb : ∀ {j : Nat} {o : Obj} {W : World}, Kr rb W W6 → W.heap[j]? = some o → j ≠ rb → W6.heap[j]? = some o := fun {j} {o} {W} k h hn => (k.block j (Array.getElem?_eq_some_iff.1 h).1 hn).trans h
  go_wp2_with fail
  refine hK.out _ _ ⟨k6.cell hHeld.1 NE.out.2.1, k6.cell hHeld.2.1 NE.out.1, k6.cell hHeld.2.2.1 NE.out.1, h6.box, kb k6 hHeld.2.2.2.2.1 NE.out.1, kb k6 hHeld.2.2.2.2.2.1 NE.out.2.1, kb k6 hHeld.2.2.2.2.2.2.1 NE.out.2.2.1, hHeld.2.2.2.2.2.2.2.trans (k6.below (fun j hj => by have := NE.out.2.2.2.2; omega) hHeld.2.2.2.2.2.2.2.size)⟩ (fun hHeld => ?_)
  clear h6 k6 kb
  clear hK K
  try simp only [Act.put, List.setIfInBounds_toArray, List.set_cons_zero, List.set_cons_succ]
  refine wpAnyH_done (by kernel_rfl) ?_ _
  have HH := Lib.hid hHeld
  clear hHeld p0 p7 p1
  have a2 := (RdAt.mk HH.out.2.2.2.1).c2
  dsimp only at a2
  have p0 := HH.out.1
  have p1 := HH.out.2.2.1
  go_wp2_with fail
  refine wp_loop_rounds 1 ?_
  rw [rounds_succ]
  go_upto_region 28 with fail
  clear p1
  have s0 := cell_of_row _ _ 0 _ _ _ HH.out.2.2.2.2.1
  have s1 := cell_of_row _ _ 1 _ _ _ HH.out.2.2.2.2.1
  have s2 := cell_of_row _ _ 2 _ _ _ HH.out.2.2.2.2.1
  have s3 := cell_of_row _ _ 3 _ _ _ HH.out.2.2.2.2.1
  have s4 := cell_of_row _ _ 4 _ _ _ HH.out.2.2.2.2.1
  have s5 := cell_of_row _ _ 5 _ _ _ HH.out.2.2.2.2.1
  have s6 := cell_of_row _ _ 6 _ _ _ HH.out.2.2.2.2.1
  have f0 := frozen_of_row W6 _ 0 _ _ HH.out.2.2.2.2.2.2.1
  have f1 := frozen_of_row W6 _ 1 _ _ HH.out.2.2.2.2.2.2.1
  have f2 := frozen_of_row W6 _ 2 _ _ HH.out.2.2.2.2.2.2.1
  have f3 := frozen_of_row W6 _ 3 _ _ HH.out.2.2.2.2.2.2.1
  have f4 := frozen_of_row W6 _ 4 _ _ HH.out.2.2.2.2.2.2.1
  have f5 := frozen_of_row W6 _ 5 _ _ HH.out.2.2.2.2.2.2.1
  have f6 := frozen_of_row W6 _ 6 _ _ HH.out.2.2.2.2.2.2.1
  have t0 : W6.cell? ⟨w.heap.size, 0, none⟩ = some (.slice none 0 0) := cell_of_row W6 _ 0 _ _ _ HH.out.2.2.2.2.2.2.1
  have t1 : W6.cell? ⟨w.heap.size, 1, none⟩ = some (.slice none 0 0) := cell_of_row W6 _ 1 _ _ _ HH.out.2.2.2.2.2.2.1
  have t2 : W6.cell? ⟨w.heap.size, 2, none⟩ = some (.slice none 0 0) := cell_of_row W6 _ 2 _ _ _ HH.out.2.2.2.2.2.2.1
  have t3 : W6.cell? ⟨w.heap.size, 3, none⟩ = some (.slice none 0 0) := cell_of_row W6 _ 3 _ _ _ HH.out.2.2.2.2.2.2.1
  have t4 : W6.cell? ⟨w.heap.size, 4, none⟩ = some (.slice none 0 0) := cell_of_row W6 _ 4 _ _ _ HH.out.2.2.2.2.2.2.1
  have t5 : W6.cell? ⟨w.heap.size, 5, none⟩ = some (.int .i64 0) := cell_of_row W6 _ 5 _ _ _ HH.out.2.2.2.2.2.2.1
  have t6 : W6.cell? ⟨w.heap.size, 6, none⟩ = some (.slice none 0 0) := cell_of_row W6 _ 6 _ _ _ HH.out.2.2.2.2.2.2.1
  obtain ⟨W9, hW9⟩ : ∃ W9, ((((((W6.setCell ⟨w.heap.size, 0, none⟩ (.slice none 0 0)).setCell ⟨w.heap.size, 1, none⟩ (.slice none 0 0)).setCell ⟨w.heap.size, 2, none⟩ (.slice none 0 0)).setCell ⟨w.heap.size, 3, none⟩ (.slice none 0 0)).setCell ⟨w.heap.size, 4, none⟩ (.slice none 0 0)).setCell ⟨w.heap.size, 5, none⟩ (.int .i64 (-1))).setCell ⟨w.heap.size, 6, none⟩ (.slice none 0 0) = W9 := ⟨_, rfl⟩
  have R9 : W9.heap[w.heap.size]? = some (.cells #[.slice none 0 0, .slice none 0 0, .slice none 0 0, .slice none 0 0, .slice none 0 0, .int .i64 (-1), .slice none 0 0] 29 (0, 0)) := by rw [← hW9]; exact (box_set (box_set (box_set (box_set (box_set (box_set (box_set HH.out.2.2.2.2.2.2.1 0 _) 1 _) 2 _) 3 _) 4 _) 5 _) 6 _)
  have B9 := Lib.hid (show Below w.heap.size w W9 from HH.out.2.2.2.2.2.2.2.trans (Keeps.below (F := fun j => j = w.heap.size) (by rw [← hW9]; exact (Enc.keeps_then (Enc.keeps_then (Enc.keeps_then (Enc.keeps_then (Enc.keeps_then (Enc.keeps_then (Keeps.setCell (F := fun j => j = w.heap.size) _ _ _ rfl) (Keeps.setCell _ _ _ rfl)) (Keeps.setCell _ _ _ rfl)) (Keeps.setCell _ _ _ rfl)) (Keeps.setCell _ _ _ rfl)) (Keeps.setCell _ _ _ rfl)) (Keeps.setCell _ _ _ rfl))) (fun j hj => by omega) HH.out.2.2.2.2.2.2.2.size))
  have HW9 := Lib.hid hW9
  clear hW9
  have r0 : W9.cell? ⟨w.heap.size, 0, none⟩ = some (.slice none 0 0) := cell_of_row W9 _ 0 _ _ _ R9
  have r1 : W9.cell? ⟨w.heap.size, 1, none⟩ = some (.slice none 0 0) := cell_of_row W9 _ 1 _ _ _ R9
  have r2 : W9.cell? ⟨w.heap.size, 2, none⟩ = some (.slice none 0 0) := cell_of_row W9 _ 2 _ _ _ R9
  have r3 : W9.cell? ⟨w.heap.size, 3, none⟩ = some (.slice none 0 0) := cell_of_row W9 _ 3 _ _ _ R9
  have r4 : W9.cell? ⟨w.heap.size, 4, none⟩ = some (.slice none 0 0) := cell_of_row W9 _ 4 _ _ _ R9
  have r5 : W9.cell? ⟨w.heap.size, 5, none⟩ = some (.int .i64 (-1)) := cell_of_row W9 _ 5 _ _ _ R9
  have r6 : W9.cell? ⟨w.heap.size, 6, none⟩ = some (.slice none 0 0) := cell_of_row W9 _ 6 _ _ _ R9
  go_wp2_with fail
  rw [HW9.out]
  (try simp only [Exit.inBlock, Exit.then])
  refine bodyPost_ret (v := .tuple #[.agg #[.slice none 0 0, .slice none 0 0, .slice none 0 0, .slice none 0 0, .slice none 0 0, .int .i64 (-1), .slice none 0 0], .int .i64 0]) (by simp [results, Tryz.results15, go_sem, r0, r1, r2, r3, r4, r5, r6]) rfl ?_
  exact ⟨rfl, B9.out⟩
end Go.Proofs.YteidhccnbfikcaaGreatDoor.Dec

/- DecN: What dec.Instr reads. No condition beyond what each theorem names. -/
namespace Go.Proofs.YteidhccnbfikcaaGreatDoor.Dec
open Go.RowKit Go.Maps Go.Proofs.YteidhccnbfikcaaGreatDoor.Op Go.Proofs.YteidhccnbfikcaaGreatDoor.Mod Go.Proofs.YteidhccnbfikcaaGreatDoor.Leb Go.Proofs.YteidhccnbfikcaaGreatDoor.Enc
set_option linter.unusedVariables false
set_option linter.unusedSimpArgs false
variable {w w' W W' : World} {rb mb : Nat} {s : ByteArray} {r r' : RS}
/-- what Instr answers: the instruction, its labels in memory of its own, the place behind, the error -/
def GotN (w : World) (A : InsL × Int × Int) (e : Ending) (w' : World) : Prop := ∃ lv, e = .returned (.tuple #[.agg #[.int .i64 A.1.op, .int .i64 A.1.a, .int .i64 A.1.b, lv], .int .i64 A.2.1, .int .i64 A.2.2]) ∧ OwnAt w' w.heap.size 3 1 lv (cellsI A.1.labels) ∧ A.1.labels.length ≤ 4096 ∧ Below w.heap.size w w'
theorem set4b {w : World} {b : Nat} {a0 a1 a2 a3 : Value} {t : TypeId} (h : w.heap[b]? = some (.cells #[a0, a1, a2, a3] t (0, 0))) (u0 u1 u2 u3 : Value) : ((((w.setCell ⟨b, 0, none⟩ u0).setCell ⟨b, 1, none⟩ u1).setCell ⟨b, 2, none⟩ u2).setCell ⟨b, 3, none⟩ u3).heap[b]? = some (.cells #[u0, u1, u2, u3] t (0, 0)) ∧ Keeps (fun j => j = b) w ((((w.setCell ⟨b, 0, none⟩ u0).setCell ⟨b, 1, none⟩ u1).setCell ⟨b, 2, none⟩ u2).setCell ⟨b, 3, none⟩ u3) := set4 w b a0 a1 a2 a3 u0 u1 u2 u3 t h
theorem infd_new (w : World) : InfD (w.alloc (.map #[] 0)) w.heap.size := ⟨0, .map [], World.ownsMap_made w Tryz.prog 3 asIs, ⟨isMap_empty, fun c z h => by simp [Maps.has] at h⟩, fun code h => by simp [Maps.has] at h, Nat.zero_le _⟩
set_option maxRecDepth 100000 in
set_option maxHeartbeats 2000000 in
theorem dec_neg (at_ : Int) (w : World) (h : at_ < 0) :
    Calls Tryz.prog 18 #[.string s, .int .i64 at_] w (GotN w (zeroX, 0, 1)) := by
  have hd : decide (at_ < 0) = true := decide_eq_true h
  clear h
  obtain ⟨W1, hW1⟩ : ∃ W1, w.alloc (.cells #[.int .i64 0, .int .i64 0, .int .i64 0, .slice none 0 0] 33) = W1 := ⟨_, rfl⟩
  have B1 := Lib.hid (show Below w.heap.size w W1 by rw [← hW1]; exact (Below.refl _ _).alloc (Nat.le_refl _) _)
  have R1 := Lib.hid (show W1.heap[w.heap.size]? = some (.cells #[.int .i64 0, .int .i64 0, .int .i64 0, .slice none 0 0] 33 (0, 0)) by rw [← hW1]; exact heap_alloc_new _ _)
  have HW1 := Lib.hid hW1
  clear hW1
  go_enter Tryz.func18, Tryz.ntmps18
  go_upto_region 1 with fail
  rw [HW1.out]
  have f0 := frozen_of_row W1 _ 0 _ _ R1.out
  have f1 := frozen_of_row W1 _ 1 _ _ R1.out
  have f2 := frozen_of_row W1 _ 2 _ _ R1.out
  have f3 := frozen_of_row W1 _ 3 _ _ R1.out
  have t0 : W1.cell? ⟨w.heap.size, 0, none⟩ = some (.int .i64 0) := cell_of_row W1 _ 0 _ _ _ R1.out
  have t1 : W1.cell? ⟨w.heap.size, 1, none⟩ = some (.int .i64 0) := cell_of_row W1 _ 1 _ _ _ R1.out
  have t2 : W1.cell? ⟨w.heap.size, 2, none⟩ = some (.int .i64 0) := cell_of_row W1 _ 2 _ _ _ R1.out
  have t3 : W1.cell? ⟨w.heap.size, 3, none⟩ = some (.slice none 0 0) := cell_of_row W1 _ 3 _ _ _ R1.out
  have hs4 := set4b R1.out (.int .i64 0) (.int .i64 0) (.int .i64 0) (.slice none 0 0)
  obtain ⟨W9, hW9⟩ : ∃ W9, (((W1.setCell ⟨w.heap.size, 0, none⟩ (.int .i64 0)).setCell ⟨w.heap.size, 1, none⟩ (.int .i64 0)).setCell ⟨w.heap.size, 2, none⟩ (.int .i64 0)).setCell ⟨w.heap.size, 3, none⟩ (.slice none 0 0) = W9 := ⟨_, rfl⟩
  rw [hW9] at hs4
  have B9 := Lib.hid (show Below w.heap.size w W9 from B1.out.trans (hs4.2.below (fun j hj => by omega) B1.out.size))
  have HW9 := Lib.hid hW9
  have r0 : W9.cell? ⟨w.heap.size, 0, none⟩ = some (.int .i64 0) := cell_of_row W9 _ 0 _ _ _ hs4.1
  have r1 : W9.cell? ⟨w.heap.size, 1, none⟩ = some (.int .i64 0) := cell_of_row W9 _ 1 _ _ _ hs4.1
  have r2 : W9.cell? ⟨w.heap.size, 2, none⟩ = some (.int .i64 0) := cell_of_row W9 _ 2 _ _ _ hs4.1
  have r3 : W9.cell? ⟨w.heap.size, 3, none⟩ = some (.slice none 0 0) := cell_of_row W9 _ 3 _ _ _ hs4.1
  clear hW9 hs4
  go_wp2_with fail
  rw [HW9.out]
  (try simp only [Exit.inBlock, Exit.then])
  refine bodyPost_ret (v := .tuple #[.agg #[.int .i64 0, .int .i64 0, .int .i64 0, .slice none 0 0], .int .i64 0, .int .i64 1]) (by simp [results, Tryz.results18, go_sem, r0, r1, r2, r3]) rfl ?_
  exact ⟨_, rfl, own_nil _ _ _ _, Nat.zero_le _, B9.out⟩
set_option maxRecDepth 100000 in
set_option maxHeartbeats 2000000 in
theorem dec_far (at_ : Int) (w : World) (h : ¬ at_ < 0) (h2 : (s.size : Int) < at_) :
    Calls Tryz.prog 18 #[.string s, .int .i64 at_] w (GotN w (zeroX, 0, 1)) := by
  have hd : decide (at_ < 0) = false := decide_eq_false h
  have hd2 : decide ((s.size : Int) < at_) = true := decide_eq_true h2
  clear h h2
  obtain ⟨W1, hW1⟩ : ∃ W1, w.alloc (.cells #[.int .i64 0, .int .i64 0, .int .i64 0, .slice none 0 0] 33) = W1 := ⟨_, rfl⟩
  have B1 := Lib.hid (show Below w.heap.size w W1 by rw [← hW1]; exact (Below.refl _ _).alloc (Nat.le_refl _) _)
  have R1 := Lib.hid (show W1.heap[w.heap.size]? = some (.cells #[.int .i64 0, .int .i64 0, .int .i64 0, .slice none 0 0] 33 (0, 0)) by rw [← hW1]; exact heap_alloc_new _ _)
  have HW1 := Lib.hid hW1
  clear hW1
  go_enter Tryz.func18, Tryz.ntmps18
  go_upto_region 1 with fail
  rw [HW1.out]
  have f0 := frozen_of_row W1 _ 0 _ _ R1.out
  have f1 := frozen_of_row W1 _ 1 _ _ R1.out
  have f2 := frozen_of_row W1 _ 2 _ _ R1.out
  have f3 := frozen_of_row W1 _ 3 _ _ R1.out
  have t0 : W1.cell? ⟨w.heap.size, 0, none⟩ = some (.int .i64 0) := cell_of_row W1 _ 0 _ _ _ R1.out
  have t1 : W1.cell? ⟨w.heap.size, 1, none⟩ = some (.int .i64 0) := cell_of_row W1 _ 1 _ _ _ R1.out
  have t2 : W1.cell? ⟨w.heap.size, 2, none⟩ = some (.int .i64 0) := cell_of_row W1 _ 2 _ _ _ R1.out
  have t3 : W1.cell? ⟨w.heap.size, 3, none⟩ = some (.slice none 0 0) := cell_of_row W1 _ 3 _ _ _ R1.out
  have hs4 := set4b R1.out (.int .i64 0) (.int .i64 0) (.int .i64 0) (.slice none 0 0)
  obtain ⟨W9, hW9⟩ : ∃ W9, (((W1.setCell ⟨w.heap.size, 0, none⟩ (.int .i64 0)).setCell ⟨w.heap.size, 1, none⟩ (.int .i64 0)).setCell ⟨w.heap.size, 2, none⟩ (.int .i64 0)).setCell ⟨w.heap.size, 3, none⟩ (.slice none 0 0) = W9 := ⟨_, rfl⟩
  rw [hW9] at hs4
  have B9 := Lib.hid (show Below w.heap.size w W9 from B1.out.trans (hs4.2.below (fun j hj => by omega) B1.out.size))
  have HW9 := Lib.hid hW9
  have r0 : W9.cell? ⟨w.heap.size, 0, none⟩ = some (.int .i64 0) := cell_of_row W9 _ 0 _ _ _ hs4.1
  have r1 : W9.cell? ⟨w.heap.size, 1, none⟩ = some (.int .i64 0) := cell_of_row W9 _ 1 _ _ _ hs4.1
  have r2 : W9.cell? ⟨w.heap.size, 2, none⟩ = some (.int .i64 0) := cell_of_row W9 _ 2 _ _ _ hs4.1
  have r3 : W9.cell? ⟨w.heap.size, 3, none⟩ = some (.slice none 0 0) := cell_of_row W9 _ 3 _ _ _ hs4.1
  clear hW9 hs4
  go_wp2_with fail
  rw [HW9.out]
  (try simp only [Exit.inBlock, Exit.then])
  refine bodyPost_ret (v := .tuple #[.agg #[.int .i64 0, .int .i64 0, .int .i64 0, .slice none 0 0], .int .i64 0, .int .i64 1]) (by simp [results, Tryz.results18, go_sem, r0, r1, r2, r3]) rfl ?_
  exact ⟨_, rfl, own_nil _ _ _ _, Nat.zero_le _, B9.out⟩
set_option maxRecDepth 100000 in
set_option maxHeartbeats 4000000 in
theorem dec_err (p : Nat) (w : World) (hE : OpEnv w) (hs : s.size ≤ 1000000000000000) (hp : p ≤ s.size) {X : InsL} {Q : RS} (hx : instrP s.data.toList ⟨p, 0⟩ = (X, Q)) (h0 : Q.e ≠ 0) :
    Calls Tryz.prog 18 #[.string s, .int .i64 (p : Int)] w (GotN w (zeroX, 0, Q.e)) := by
  have hd : decide ((p : Int) < 0) = false := decide_eq_false (by omega)
  have hd2 : decide ((s.size : Int) < (p : Int)) = false := decide_eq_false (by omega)
  have hd3 : decide (s.size < p) = false := decide_eq_false (by omega)
  have hmm := @run_makeMap Tryz.prog
  have HX := Lib.hid hx
  have HE := Lib.hid hE
  have HP := Lib.hid hp
  have HS := Lib.hid hs
  have H0 := Lib.hid h0
  clear hx hE hp hs h0
  obtain ⟨W1, hW1⟩ : ∃ W1, w.alloc (.cells #[.int .i64 0, .int .i64 0, .int .i64 0, .slice none 0 0] 33) = W1 := ⟨_, rfl⟩
  have B1 := Lib.hid (show Below w.heap.size w W1 by rw [← hW1]; exact (Below.refl _ _).alloc (Nat.le_refl _) _)
  have R1 := Lib.hid (show W1.heap[w.heap.size]? = some (.cells #[.int .i64 0, .int .i64 0, .int .i64 0, .slice none 0 0] 33 (0, 0)) by rw [← hW1]; exact heap_alloc_new _ _)
  have HW1 := Lib.hid hW1
  clear hW1
  go_enter Tryz.func18, Tryz.ntmps18
  go_upto_region 1 with fail
  rw [HW1.out]
  go_upto_region 4 with fail
  obtain ⟨W2, hW2⟩ : ∃ W2, (W1.alloc (.map #[] 0)).alloc (.cells #[.string s, .int .i64 (p : Int), .int .i64 0, .map (some W1.heap.size)] 137) = W2 := ⟨_, rfl⟩
  have z1 : w.heap.size < W1.heap.size := (Array.getElem?_eq_some_iff.1 R1.out).1
  have o1 : Below W1.heap.size W1 W2 := by rw [← hW2]; exact ((Below.refl _ _).alloc (Nat.le_refl _) _).alloc (by simp) _
  have rowR : W2.heap[W1.heap.size + 1]? = some (.cells (boxR s (some W1.heap.size) ⟨p, 0⟩) 137 (0, 0)) := by
    rw [← hW2]
    have h9 := heap_alloc_new (W1.alloc (.map #[] 0)) (.cells #[.string s, .int .i64 (p : Int), .int .i64 0, .map (some W1.heap.size)] 137)
    rw [show (W1.alloc (.map #[] 0)).heap.size = W1.heap.size + 1 by simp] at h9
    exact h9
  have inf : InfD W2 W1.heap.size := (infd_new W1).later (by rw [← hW2]; exact (Below.refl _ _).alloc (Nat.le_refl _) _)
  have row0 := (o1.block w.heap.size z1).trans R1.out
  have B2 := B1.out.trans (o1.mono B1.out.size)
  rw [hW2]
  have HRD := Lib.hid (show Rd w W2 (W1.heap.size + 1) W1.heap.size s ⟨p, 0⟩ from ⟨⟨rowR⟩, inf, HE.out, B2, ⟨by omega, by omega⟩, HP.out, HS.out⟩)
  have R2 := Lib.hid row0
  have NE := Lib.hid (show w.heap.size < W1.heap.size from z1)
  clear hW2 z1 o1 rowR inf row0 B2 hmm B1 R1 HW1 hd hd2 hd3
  generalize W1.heap.size = mb at *
  obtain ⟨rb, hrb⟩ : ∃ rb, mb + 1 = rb := ⟨_, rfl⟩
  rw [hrb] at HRD ⊢
  have NR := Lib.hid (show w.heap.size < rb by have := NE.out; omega)
  clear hrb
  go_wp2_with fail
  refine (instr_any HRD.out HX.out).mono ?_
  rintro e w3 ⟨lv, rfl, o3, l3, h3, k3⟩
  obtain ⟨va, vc, rfl⟩ := own_form o3.1
  have hlen : (cellsI X.labels).length = X.labels.length := by unfold cellsI; rw [List.length_map]
  rw [hlen] at o3 ⊢
  have row3 : w3.heap[w.heap.size]? = some (.cells #[.int .i64 0, .int .i64 0, .int .i64 0, .slice none 0 0] 33 (0, 0)) := (k3.block w.heap.size (Array.getElem?_eq_some_iff.1 R2.out).1 (fun e => by have h1 := NE.out; have h2 := NR.out; rcases e with e | e <;> omega)).trans R2.out
  have z2 : w.heap.size < W2.heap.size := (Array.getElem?_eq_some_iff.1 R2.out).1
  have f0 := frozen_of_row w3 _ 0 _ _ row3
  have f1 := frozen_of_row w3 _ 1 _ _ row3
  have f2 := frozen_of_row w3 _ 2 _ _ row3
  have f3 := frozen_of_row w3 _ 3 _ _ row3
  have t0 : w3.cell? ⟨w.heap.size, 0, none⟩ = some (.int .i64 0) := cell_of_row w3 _ 0 _ _ _ row3
  have t1 : w3.cell? ⟨w.heap.size, 1, none⟩ = some (.int .i64 0) := cell_of_row w3 _ 1 _ _ _ row3
  have t2 : w3.cell? ⟨w.heap.size, 2, none⟩ = some (.int .i64 0) := cell_of_row w3 _ 2 _ _ _ row3
  have t3 : w3.cell? ⟨w.heap.size, 3, none⟩ = some (.slice none 0 0) := cell_of_row w3 _ 3 _ _ _ row3
  have hs4 := set4b row3 (.int .i64 X.op) (.int .i64 X.a) (.int .i64 X.b) (.slice va X.labels.length vc)
  obtain ⟨W4, hW4⟩ : ∃ W4, (((w3.setCell ⟨w.heap.size, 0, none⟩ (.int .i64 X.op)).setCell ⟨w.heap.size, 1, none⟩ (.int .i64 X.a)).setCell ⟨w.heap.size, 2, none⟩ (.int .i64 X.b)).setCell ⟨w.heap.size, 3, none⟩ (.slice va X.labels.length vc) = W4 := ⟨_, rfl⟩
  rw [hW4] at hs4
  have H4 := Lib.hid (show Rd w W4 rb mb s Q from h3.kept hs4.2 (by have := NR.out; omega) (by have := NE.out; omega) (fun j hj => by omega))
  have OW4 := Lib.hid (show OwnAt W4 W2.heap.size 3 1 (.slice va X.labels.length vc) (cellsI X.labels) from own_kept o3 hs4.2 (fun j hj hn => by have := (o3.1.lt j hj).1; omega))
  have R4 := Lib.hid hs4.1
  have HLL := Lib.hid l3
  have Z2 := Lib.hid z2
  have HW4 := Lib.hid hW4
  clear hW4 hs4 h3 k3 o3 l3 row3 z2 hlen
  go_upto_region 5 with fail
  rw [HW4.out]
  clear f0 f1 f2 f3 t0 t1 t2 t3
  have a2 := H4.out.rd.c2
  obtain ⟨q, er⟩ := Q
  have hne : (er == 0) = false := beq_eq_false_iff_ne.2 H0.out
  have hne2 : (er != 0) = true := bne_iff_ne.2 H0.out
  dsimp only at a2
  go_upto_region 6 with fail
  refine wp_region_held_drew (S := fun W => W.cell? ⟨rb, 2, none⟩ = some (.int .i64 er) ∧ Below w.heap.size w W) (by kernel_rfl) ⟨a2, H4.out.bel.drew⟩ (fun hHeld => ?_)
  obtain ⟨V0, hV0⟩ : ∃ V, W4.drew = V := ⟨_, rfl⟩
  have HV0 := Lib.hid (show Rd w V0 rb mb s _ ∧ OwnAt V0 W2.heap.size 3 1 (.slice va X.labels.length vc) (cellsI X.labels) from by rw [← hV0]; exact ⟨H4.out.later (Below.refl _ _).drew, OW4.out.later (Below.refl _ _).drew⟩)
  have RV0 := Lib.hid (show V0.heap[w.heap.size]? = some (.cells #[.int .i64 X.op, .int .i64 X.a, .int .i64 X.b, .slice va X.labels.length vc] 33 (0, 0)) from by rw [← hV0]; exact R4.out)
  rw [hV0] at hHeld ⊢
  clear hV0
  have f0 := frozen_of_row V0 _ 0 _ _ RV0.out
  have f1 := frozen_of_row V0 _ 1 _ _ RV0.out
  have f2 := frozen_of_row V0 _ 2 _ _ RV0.out
  have f3 := frozen_of_row V0 _ 3 _ _ RV0.out
  have t0 : V0.cell? ⟨w.heap.size, 0, none⟩ = some (.int .i64 X.op) := cell_of_row V0 _ 0 _ _ _ RV0.out
  have t1 : V0.cell? ⟨w.heap.size, 1, none⟩ = some (.int .i64 X.a) := cell_of_row V0 _ 1 _ _ _ RV0.out
  have t2 : V0.cell? ⟨w.heap.size, 2, none⟩ = some (.int .i64 X.b) := cell_of_row V0 _ 2 _ _ _ RV0.out
  have t3 : V0.cell? ⟨w.heap.size, 3, none⟩ = some (.slice va X.labels.length vc) := cell_of_row V0 _ 3 _ _ _ RV0.out
  have hs4 := set4b RV0.out (.int .i64 0) (.int .i64 0) (.int .i64 0) (.slice none 0 0)
  obtain ⟨W9, hW9⟩ : ∃ W9, (((V0.setCell ⟨w.heap.size, 0, none⟩ (.int .i64 0)).setCell ⟨w.heap.size, 1, none⟩ (.int .i64 0)).setCell ⟨w.heap.size, 2, none⟩ (.int .i64 0)).setCell ⟨w.heap.size, 3, none⟩ (.slice none 0 0) = W9 := ⟨_, rfl⟩
  rw [hW9] at hs4
  have B9 := Lib.hid (show Below w.heap.size w W9 from (HV0.out.1.bel).trans (hs4.2.below (fun j hj => by omega) HV0.out.1.bel.size))
  have H9 := Lib.hid (show Rd w W9 rb mb s _ from HV0.out.1.kept hs4.2 (by have := NR.out; omega) (by have := NE.out; omega) (fun j hj => by omega))
  have OW9 := Lib.hid (own_kept HV0.out.2 hs4.2 (fun j hj hn => by have := (HV0.out.2.1.lt j hj).1; have := Z2.out; omega))
  have R9 := Lib.hid hs4.1
  have HW9 := Lib.hid hW9
  clear hW9 hs4
  refine take_yes (i := 0) (d := (some 29)) (v := ?_) rfl (by kernel_rfl) (by kernel_rfl) (by kernel_rfl) rfl (fun _ _ _ h => h) (by rfl) (by assumption) ?_ ?_
  rotate_left
  · (intro w hSw; (try dsimp only at hSw); go_simp; try with_reducible rfl)
  try simp only [Act.put, List.setIfInBounds_toArray, List.set_cons_zero, List.set_cons_succ]
  refine take_yes (i := 1) (d := (some 30)) (v := ?_) rfl (by kernel_rfl) (by kernel_rfl) (by kernel_rfl) rfl (fun _ _ _ h => h) (by rfl) (by assumption) ?_ ?_
  rotate_left
  · (intro w hSw; (try dsimp only at hSw); go_simp; try with_reducible rfl)
  try simp only [Act.put, List.setIfInBounds_toArray, List.set_cons_zero, List.set_cons_succ]
  refine take_yes (i := 2) (d := (some 31)) (v := ?_) rfl (by kernel_rfl) (by kernel_rfl) (by kernel_rfl) rfl (fun _ _ _ h => h) (by rfl) (by assumption) ?_ ?_
  rotate_left
  · (intro w hSw; (try dsimp only at hSw); go_simp; try with_reducible rfl)
  try simp only [Act.put, List.setIfInBounds_toArray, List.set_cons_zero, List.set_cons_succ]
  refine take_yes (i := 3) (d := (some 32)) (v := ?_) rfl (by kernel_rfl) (by kernel_rfl) (by kernel_rfl) rfl (fun _ _ _ h => h) (by rfl) (by assumption) ?_ ?_
  rotate_left
  · (intro w hSw; (try dsimp only at hSw); go_simp; try with_reducible rfl)
  try simp only [Act.put, List.setIfInBounds_toArray, List.set_cons_zero, List.set_cons_succ]
  refine take_yes (i := 4) (d := (some 33)) (v := ?_) rfl (by kernel_rfl) (by kernel_rfl) (by kernel_rfl) rfl (fun _ _ _ h => h) (by rfl) (by assumption) ?_ ?_
  rotate_left
  · (intro w hSw; (try dsimp only at hSw); go_simp; try with_reducible rfl)
  try simp only [Act.put, List.setIfInBounds_toArray, List.set_cons_zero, List.set_cons_succ]
  refine wpAnyH_ready (rs := [5]) (by kernel_rfl) (by simp) ?_
  refine (AllReadyH.cons (o := _) rfl (fun K hK => ?_) AllReadyH.nil)
  go_simp
  rw [HW9.out]
  refine hK.out _ _ ⟨H9.out.rd.c2, B9.out⟩ (fun hHeld => ?_)
  clear f0 f1 f2 f3 t0 t1 t2 t3
  clear hK K
  try simp only [Act.put, List.setIfInBounds_toArray, List.set_cons_zero, List.set_cons_succ]
  refine take_yes (i := 6) (d := (some 5)) (v := ?_) rfl (by kernel_rfl) (by kernel_rfl) (by kernel_rfl) rfl (fun _ _ _ h => h) (by rfl) (by assumption) ?_ ?_
  rotate_left
  · (intro w hSw; (try dsimp only at hSw); go_simp; try with_reducible rfl)
  try simp only [Act.put, List.setIfInBounds_toArray, List.set_cons_zero, List.set_cons_succ]
  refine take_yes (i := 7) (d := (some 6)) (v := ?_) rfl (by kernel_rfl) (by kernel_rfl) (by kernel_rfl) rfl (fun _ _ _ h => h) (by rfl) (by assumption) ?_ ?_
  rotate_left
  · (intro w hSw; (try dsimp only at hSw); go_simp; try with_reducible rfl)
  try simp only [Act.put, List.setIfInBounds_toArray, List.set_cons_zero, List.set_cons_succ]
  refine wpAnyH_done (by kernel_rfl) ?_ _
  have r0 : W9.cell? ⟨w.heap.size, 0, none⟩ = some (.int .i64 0) := cell_of_row W9 _ 0 _ _ _ R9.out
  have r1 : W9.cell? ⟨w.heap.size, 1, none⟩ = some (.int .i64 0) := cell_of_row W9 _ 1 _ _ _ R9.out
  have r2 : W9.cell? ⟨w.heap.size, 2, none⟩ = some (.int .i64 0) := cell_of_row W9 _ 2 _ _ _ R9.out
  have r3 : W9.cell? ⟨w.heap.size, 3, none⟩ = some (.slice none 0 0) := cell_of_row W9 _ 3 _ _ _ R9.out
  clear hHeld
  go_wp2_with fail
  (try simp only [Exit.inBlock, Exit.then])
  refine bodyPost_ret (v := .tuple #[.agg #[.int .i64 0, .int .i64 0, .int .i64 0, .slice none 0 0], .int .i64 0, .int .i64 er]) (by simp [results, Tryz.results18, go_sem, r0, r1, r2, r3]) rfl ?_
  exact ⟨_, rfl, own_nil _ _ _ _, Nat.zero_le _, B9.out⟩
set_option maxRecDepth 100000 in
set_option maxHeartbeats 4000000 in
theorem dec_ok (p : Nat) (w : World) (hE : OpEnv w) (hs : s.size ≤ 1000000000000000) (hp : p ≤ s.size) {X : InsL} {Q : RS} (hx : instrP s.data.toList ⟨p, 0⟩ = (X, Q)) (h0 : Q.e = 0) :
    Calls Tryz.prog 18 #[.string s, .int .i64 (p : Int)] w (GotN w (X, (Q.pos : Int), 0)) := by
  have hd : decide ((p : Int) < 0) = false := decide_eq_false (by omega)
  have hd2 : decide ((s.size : Int) < (p : Int)) = false := decide_eq_false (by omega)
  have hd3 : decide (s.size < p) = false := decide_eq_false (by omega)
  have hmm := @run_makeMap Tryz.prog
  have HX := Lib.hid hx
  have HE := Lib.hid hE
  have HP := Lib.hid hp
  have HS := Lib.hid hs
  have H0 := Lib.hid h0
  clear hx hE hp hs h0
  obtain ⟨W1, hW1⟩ : ∃ W1, w.alloc (.cells #[.int .i64 0, .int .i64 0, .int .i64 0, .slice none 0 0] 33) = W1 := ⟨_, rfl⟩
  have B1 := Lib.hid (show Below w.heap.size w W1 by rw [← hW1]; exact (Below.refl _ _).alloc (Nat.le_refl _) _)
  have R1 := Lib.hid (show W1.heap[w.heap.size]? = some (.cells #[.int .i64 0, .int .i64 0, .int .i64 0, .slice none 0 0] 33 (0, 0)) by rw [← hW1]; exact heap_alloc_new _ _)
  have HW1 := Lib.hid hW1
  clear hW1
  go_enter Tryz.func18, Tryz.ntmps18
  go_upto_region 1 with fail
  rw [HW1.out]
  go_upto_region 4 with fail
  obtain ⟨W2, hW2⟩ : ∃ W2, (W1.alloc (.map #[] 0)).alloc (.cells #[.string s, .int .i64 (p : Int), .int .i64 0, .map (some W1.heap.size)] 137) = W2 := ⟨_, rfl⟩
  have z1 : w.heap.size < W1.heap.size := (Array.getElem?_eq_some_iff.1 R1.out).1
  have o1 : Below W1.heap.size W1 W2 := by rw [← hW2]; exact ((Below.refl _ _).alloc (Nat.le_refl _) _).alloc (by simp) _
  have rowR : W2.heap[W1.heap.size + 1]? = some (.cells (boxR s (some W1.heap.size) ⟨p, 0⟩) 137 (0, 0)) := by
    rw [← hW2]
    have h9 := heap_alloc_new (W1.alloc (.map #[] 0)) (.cells #[.string s, .int .i64 (p : Int), .int .i64 0, .map (some W1.heap.size)] 137)
    rw [show (W1.alloc (.map #[] 0)).heap.size = W1.heap.size + 1 by simp] at h9
    exact h9
  have inf : InfD W2 W1.heap.size := (infd_new W1).later (by rw [← hW2]; exact (Below.refl _ _).alloc (Nat.le_refl _) _)
  have row0 := (o1.block w.heap.size z1).trans R1.out
  have B2 := B1.out.trans (o1.mono B1.out.size)
  rw [hW2]
  have HRD := Lib.hid (show Rd w W2 (W1.heap.size + 1) W1.heap.size s ⟨p, 0⟩ from ⟨⟨rowR⟩, inf, HE.out, B2, ⟨by omega, by omega⟩, HP.out, HS.out⟩)
  have R2 := Lib.hid row0
  have NE := Lib.hid (show w.heap.size < W1.heap.size from z1)
  clear hW2 z1 o1 rowR inf row0 B2 hmm B1 R1 HW1 hd hd2 hd3
  generalize W1.heap.size = mb at *
  obtain ⟨rb, hrb⟩ : ∃ rb, mb + 1 = rb := ⟨_, rfl⟩
  rw [hrb] at HRD ⊢
  have NR := Lib.hid (show w.heap.size < rb by have := NE.out; omega)
  clear hrb
  go_wp2_with fail
  refine (instr_any HRD.out HX.out).mono ?_
  rintro e w3 ⟨lv, rfl, o3, l3, h3, k3⟩
  obtain ⟨va, vc, rfl⟩ := own_form o3.1
  have hlen : (cellsI X.labels).length = X.labels.length := by unfold cellsI; rw [List.length_map]
  rw [hlen] at o3 ⊢
  have row3 : w3.heap[w.heap.size]? = some (.cells #[.int .i64 0, .int .i64 0, .int .i64 0, .slice none 0 0] 33 (0, 0)) := (k3.block w.heap.size (Array.getElem?_eq_some_iff.1 R2.out).1 (fun e => by have h1 := NE.out; have h2 := NR.out; rcases e with e | e <;> omega)).trans R2.out
  have z2 : w.heap.size < W2.heap.size := (Array.getElem?_eq_some_iff.1 R2.out).1
  have f0 := frozen_of_row w3 _ 0 _ _ row3
  have f1 := frozen_of_row w3 _ 1 _ _ row3
  have f2 := frozen_of_row w3 _ 2 _ _ row3
  have f3 := frozen_of_row w3 _ 3 _ _ row3
  have t0 : w3.cell? ⟨w.heap.size, 0, none⟩ = some (.int .i64 0) := cell_of_row w3 _ 0 _ _ _ row3
  have t1 : w3.cell? ⟨w.heap.size, 1, none⟩ = some (.int .i64 0) := cell_of_row w3 _ 1 _ _ _ row3
  have t2 : w3.cell? ⟨w.heap.size, 2, none⟩ = some (.int .i64 0) := cell_of_row w3 _ 2 _ _ _ row3
  have t3 : w3.cell? ⟨w.heap.size, 3, none⟩ = some (.slice none 0 0) := cell_of_row w3 _ 3 _ _ _ row3
  have hs4 := set4b row3 (.int .i64 X.op) (.int .i64 X.a) (.int .i64 X.b) (.slice va X.labels.length vc)
  obtain ⟨W4, hW4⟩ : ∃ W4, (((w3.setCell ⟨w.heap.size, 0, none⟩ (.int .i64 X.op)).setCell ⟨w.heap.size, 1, none⟩ (.int .i64 X.a)).setCell ⟨w.heap.size, 2, none⟩ (.int .i64 X.b)).setCell ⟨w.heap.size, 3, none⟩ (.slice va X.labels.length vc) = W4 := ⟨_, rfl⟩
  rw [hW4] at hs4
  have H4 := Lib.hid (show Rd w W4 rb mb s Q from h3.kept hs4.2 (by have := NR.out; omega) (by have := NE.out; omega) (fun j hj => by omega))
  have OW4 := Lib.hid (show OwnAt W4 W2.heap.size 3 1 (.slice va X.labels.length vc) (cellsI X.labels) from own_kept o3 hs4.2 (fun j hj hn => by have := (o3.1.lt j hj).1; omega))
  have R4 := Lib.hid hs4.1
  have HLL := Lib.hid l3
  have Z2 := Lib.hid z2
  have HW4 := Lib.hid hW4
  clear hW4 hs4 h3 k3 o3 l3 row3 z2 hlen
  go_upto_region 5 with fail
  rw [HW4.out]
  clear f0 f1 f2 f3 t0 t1 t2 t3
  have a2 := H4.out.rd.c2
  obtain ⟨q, er⟩ := Q
  obtain rfl : er = 0 := H0.out
  dsimp only at a2
  go_upto_region 7 with fail
  have a1 := H4.out.rd.c1
  dsimp only at a1
  clear a2
  have c0 : W4.cell? ⟨w.heap.size, 0, none⟩ = some (.int .i64 X.op) := cell_of_row W4 _ 0 _ _ _ R4.out
  have c1 : W4.cell? ⟨w.heap.size, 1, none⟩ = some (.int .i64 X.a) := cell_of_row W4 _ 1 _ _ _ R4.out
  have c2 : W4.cell? ⟨w.heap.size, 2, none⟩ = some (.int .i64 X.b) := cell_of_row W4 _ 2 _ _ _ R4.out
  have c3 : W4.cell? ⟨w.heap.size, 3, none⟩ = some (.slice va X.labels.length vc) := cell_of_row W4 _ 3 _ _ _ R4.out
  refine wp_region_held_drew (S := fun W => W.cell? ⟨rb, 1, none⟩ = some (.int .i64 (q : Int)) ∧ W.cell? ⟨w.heap.size, 0, none⟩ = some (.int .i64 X.op) ∧ W.cell? ⟨w.heap.size, 1, none⟩ = some (.int .i64 X.a) ∧ W.cell? ⟨w.heap.size, 2, none⟩ = some (.int .i64 X.b) ∧ W.cell? ⟨w.heap.size, 3, none⟩ = some (.slice va X.labels.length vc) ∧ Below w.heap.size w W) (by kernel_rfl) ⟨a1, c0, c1, c2, c3, H4.out.bel.drew⟩ (fun hHeld => ?_)
  obtain ⟨V0, hV0⟩ : ∃ V, W4.drew = V := ⟨_, rfl⟩
  have HV0 := Lib.hid (show Rd w V0 rb mb s _ ∧ OwnAt V0 W2.heap.size 3 1 (.slice va X.labels.length vc) (cellsI X.labels) from by rw [← hV0]; exact ⟨H4.out.later (Below.refl _ _).drew, OW4.out.later (Below.refl _ _).drew⟩)
  have RV0 := Lib.hid (show V0.heap[w.heap.size]? = some (.cells #[.int .i64 X.op, .int .i64 X.a, .int .i64 X.b, .slice va X.labels.length vc] 33 (0, 0)) from by rw [← hV0]; exact R4.out)
  rw [hV0] at hHeld ⊢
  clear hV0
  have f0 := frozen_of_row V0 _ 0 _ _ RV0.out
  have f1 := frozen_of_row V0 _ 1 _ _ RV0.out
  have f2 := frozen_of_row V0 _ 2 _ _ RV0.out
  have f3 := frozen_of_row V0 _ 3 _ _ RV0.out
  have t0 : V0.cell? ⟨w.heap.size, 0, none⟩ = some (.int .i64 X.op) := cell_of_row V0 _ 0 _ _ _ RV0.out
  have t1 : V0.cell? ⟨w.heap.size, 1, none⟩ = some (.int .i64 X.a) := cell_of_row V0 _ 1 _ _ _ RV0.out
  have t2 : V0.cell? ⟨w.heap.size, 2, none⟩ = some (.int .i64 X.b) := cell_of_row V0 _ 2 _ _ _ RV0.out
  have t3 : V0.cell? ⟨w.heap.size, 3, none⟩ = some (.slice va X.labels.length vc) := cell_of_row V0 _ 3 _ _ _ RV0.out
  have hs4 := set4b RV0.out (.int .i64 X.op) (.int .i64 X.a) (.int .i64 X.b) (.slice va X.labels.length vc)
  obtain ⟨W9, hW9⟩ : ∃ W9, (((V0.setCell ⟨w.heap.size, 0, none⟩ (.int .i64 X.op)).setCell ⟨w.heap.size, 1, none⟩ (.int .i64 X.a)).setCell ⟨w.heap.size, 2, none⟩ (.int .i64 X.b)).setCell ⟨w.heap.size, 3, none⟩ (.slice va X.labels.length vc) = W9 := ⟨_, rfl⟩
  rw [hW9] at hs4
  have B9 := Lib.hid (show Below w.heap.size w W9 from (HV0.out.1.bel).trans (hs4.2.below (fun j hj => by omega) HV0.out.1.bel.size))
  have H9 := Lib.hid (show Rd w W9 rb mb s _ from HV0.out.1.kept hs4.2 (by have := NR.out; omega) (by have := NE.out; omega) (fun j hj => by omega))
  have OW9 := Lib.hid (own_kept HV0.out.2 hs4.2 (fun j hj hn => by have := (HV0.out.2.1.lt j hj).1; have := Z2.out; omega))
  have R9 := Lib.hid hs4.1
  have HW9 := Lib.hid hW9
  clear hW9 hs4
  refine take_yes (i := 0) (d := (some 34)) (v := ?_) rfl (by kernel_rfl) (by kernel_rfl) (by kernel_rfl) rfl (fun _ _ _ h => h) (by rfl) (by assumption) ?_ ?_
  rotate_left
  · (intro w hSw; (try dsimp only at hSw); go_simp; try with_reducible rfl)
  try simp only [Act.put, List.setIfInBounds_toArray, List.set_cons_zero, List.set_cons_succ]
  refine take_yes (i := 1) (d := (some 35)) (v := ?_) rfl (by kernel_rfl) (by kernel_rfl) (by kernel_rfl) rfl (fun _ _ _ h => h) (by rfl) (by assumption) ?_ ?_
  rotate_left
  · (intro w hSw; (try dsimp only at hSw); go_simp; try with_reducible rfl)
  try simp only [Act.put, List.setIfInBounds_toArray, List.set_cons_zero, List.set_cons_succ]
  refine take_yes (i := 2) (d := (some 36)) (v := ?_) rfl (by kernel_rfl) (by kernel_rfl) (by kernel_rfl) rfl (fun _ _ _ h => h) (by rfl) (by assumption) ?_ ?_
  rotate_left
  · (intro w hSw; (try dsimp only at hSw); go_simp; try with_reducible rfl)
  try simp only [Act.put, List.setIfInBounds_toArray, List.set_cons_zero, List.set_cons_succ]
  refine take_yes (i := 3) (d := (some 37)) (v := ?_) rfl (by kernel_rfl) (by kernel_rfl) (by kernel_rfl) rfl (fun _ _ _ h => h) (by rfl) (by assumption) ?_ ?_
  rotate_left
  · (intro w hSw; (try dsimp only at hSw); go_simp; try with_reducible rfl)
  try simp only [Act.put, List.setIfInBounds_toArray, List.set_cons_zero, List.set_cons_succ]
  refine take_yes (i := 4) (d := (some 38)) (v := ?_) rfl (by kernel_rfl) (by kernel_rfl) (by kernel_rfl) rfl (fun _ _ _ h => h) (by rfl) (by assumption) ?_ ?_
  rotate_left
  · (intro w hSw; (try dsimp only at hSw); go_simp; try with_reducible rfl)
  try simp only [Act.put, List.setIfInBounds_toArray, List.set_cons_zero, List.set_cons_succ]
  refine wpAnyH_ready (rs := [5]) (by kernel_rfl) (by simp) ?_
  refine (AllReadyH.cons (o := _) rfl (fun K hK => ?_) AllReadyH.nil)
  go_simp
  rw [HW9.out]
  refine hK.out _ _ ⟨H9.out.rd.c1, cell_of_row W9 _ 0 _ _ _ R9.out, cell_of_row W9 _ 1 _ _ _ R9.out, cell_of_row W9 _ 2 _ _ _ R9.out, cell_of_row W9 _ 3 _ _ _ R9.out, B9.out⟩ (fun hHeld => ?_)
  clear f0 f1 f2 f3 t0 t1 t2 t3
  clear hK K
  try simp only [Act.put, List.setIfInBounds_toArray, List.set_cons_zero, List.set_cons_succ]
  refine take_yes (i := 6) (d := (some 5)) (v := ?_) rfl (by kernel_rfl) (by kernel_rfl) (by kernel_rfl) rfl (fun _ _ _ h => h) (by rfl) (by assumption) ?_ ?_
  rotate_left
  · (intro w hSw; (try dsimp only at hSw); go_simp; try with_reducible rfl)
  try simp only [Act.put, List.setIfInBounds_toArray, List.set_cons_zero, List.set_cons_succ]
  refine take_yes (i := 7) (d := (some 6)) (v := ?_) rfl (by kernel_rfl) (by kernel_rfl) (by kernel_rfl) rfl (fun _ _ _ h => h) (by rfl) (by assumption) ?_ ?_
  rotate_left
  · (intro w hSw; (try dsimp only at hSw); go_simp; try with_reducible rfl)
  try simp only [Act.put, List.setIfInBounds_toArray, List.set_cons_zero, List.set_cons_succ]
  refine wpAnyH_done (by kernel_rfl) ?_ _
  have r0 : W9.cell? ⟨w.heap.size, 0, none⟩ = some (.int .i64 X.op) := cell_of_row W9 _ 0 _ _ _ R9.out
  have r1 : W9.cell? ⟨w.heap.size, 1, none⟩ = some (.int .i64 X.a) := cell_of_row W9 _ 1 _ _ _ R9.out
  have r2 : W9.cell? ⟨w.heap.size, 2, none⟩ = some (.int .i64 X.b) := cell_of_row W9 _ 2 _ _ _ R9.out
  have r3 : W9.cell? ⟨w.heap.size, 3, none⟩ = some (.slice va X.labels.length vc) := cell_of_row W9 _ 3 _ _ _ R9.out
  clear hHeld
  go_wp2_with fail
  (try simp only [Exit.inBlock, Exit.then])
  refine bodyPost_ret (v := .tuple #[.agg #[.int .i64 X.op, .int .i64 X.a, .int .i64 X.b, .slice va X.labels.length vc], .int .i64 (q : Int), .int .i64 0]) (by simp [results, Tryz.results18, go_sem, r0, r1, r2, r3]) rfl ?_
  exact ⟨_, rfl, ⟨ownsRow_base OW9.out.1 (by have := Z2.out; omega), OW9.out.2⟩, HLL.out, B9.out⟩
/-- dec.Instr -/
theorem decI_any (s : ByteArray) (at_ : Int) (w : World) (hE : OpEnv w) (hs : s.size ≤ 1000000000000000) :
    Calls Tryz.prog 18 #[.string s, .int .i64 at_] w (GotN w (decI s.data.toList at_)) := by
  have e : (s.data.toList.length : Int) = (s.size : Int) := rfl
  unfold decI
  by_cases h : at_ < 0
  · rw [if_pos (.inl h)]
    exact dec_neg at_ w h
  · by_cases h2 : (s.size : Int) < at_
    · rw [if_pos (.inr (by rw [e]; exact h2))]
      exact dec_far at_ w h h2
    · rw [if_neg (by rw [e]; omega)]
      obtain ⟨p, rfl⟩ : ∃ p : Nat, at_ = (p : Int) := ⟨at_.toNat, by omega⟩
      rw [show ((p : Int)).toNat = p by omega]
      dsimp only
      by_cases h0 : (instrP s.data.toList ⟨p, 0⟩).2.e = 0
      · rw [if_pos h0]
        exact dec_ok p w hE hs (by omega) rfl h0
      · rw [if_neg h0]
        exact dec_err p w hE hs (by omega) rfl h0
end Go.Proofs.YteidhccnbfikcaaGreatDoor.Dec

/- DecEx: The chapter's examples. No condition beyond what each theorem names. -/
namespace Go.Proofs.YteidhccnbfikcaaGreatDoor.Dec
open Go.RowKit Go.Maps Go.Proofs.YteidhccnbfikcaaGreatDoor.Op Go.Proofs.YteidhccnbfikcaaGreatDoor.Mod Go.Proofs.YteidhccnbfikcaaGreatDoor.Leb Go.Proofs.YteidhccnbfikcaaGreatDoor.Enc
set_option linter.unusedVariables false
set_option linter.unusedSimpArgs false
theorem ex_ins : decI [65, 127] 0 = (⟨65, -1, 0, []⟩, 2, 0) := by kernel_rfl
set_option maxRecDepth 100000 in
set_option maxHeartbeats 2000000 in
theorem examples06 (w : World) (hE : OpEnv w) : Calls Tryz.prog 12 #[] w fun e w' => e = .returned (.bool true) ∧ Below w.heap.size w w' := by
  have HE := Lib.hid hE
  clear hE
  go_enter Tryz.func12, Tryz.ntmps12
  go_wp2_with fail
  refine (module_magic w).mono ?_
  rintro e w2 ⟨rfl, c2⟩
  go_upto_region 2 with fail
  obtain ⟨W3, hW3⟩ : ∃ W3, w2.alloc (.cells #[.slice none 0 0, .slice none 0 0, .slice none 0 0, .slice none 0 0, .slice none 0 0, .int .i64 (-1), .slice none 0 0] 29) = W3 := ⟨_, rfl⟩
  have b3 : Below w2.heap.size w2 W3 := by rw [← hW3]; exact (Below.refl _ _).alloc (Nat.le_refl _) _
  have row3 : W3.heap[w2.heap.size]? = some (.cells #[.slice none 0 0, .slice none 0 0, .slice none 0 0, .slice none 0 0, .slice none 0 0, .int .i64 (-1), .slice none 0 0] 29 (0, 0)) := by rw [← hW3]; exact heap_alloc_new _ _
  have q1 : W3.cell? ⟨w2.heap.size, 1, none⟩ = some (.slice none 0 0) := cell_of_row W3 _ 1 _ _ _ row3
  have q5 : W3.cell? ⟨w2.heap.size, 5, none⟩ = some (.int .i64 (-1)) := cell_of_row W3 _ 5 _ _ _ row3
  have C3 := Lib.hid (show Below w.heap.size w W3 from c2.trans (b3.mono c2.size))
  have hi := decI_any ⟨#[65, 127]⟩ 0 W3 (opEnv_later HE.out C3.out) (by decide)
  rw [show decI (⟨#[65, 127]⟩ : ByteArray).data.toList 0 = (⟨65, -1, 0, []⟩, 2, 0) from ex_ins] at hi
  have HI := Lib.hid hi
  rw [hW3]
  clear hW3 b3 row3 c2 hi
  go_wp2_with fail
  refine HI.out.mono ?_
  rintro e w4 ⟨lv, rfl, o4, _, c4⟩
  replace q1 := cell_later c4 q1
  replace q5 := cell_later c4 q5
  have C4 := Lib.hid (C3.out.trans (c4.mono C3.out.size))
  obtain ⟨va, vc, rfl⟩ : ∃ va vc, lv = .slice va 0 vc := own_form o4.1
  clear c4 o4
  go_upto_region 3 with fail
  obtain ⟨W5, hW5⟩ : ∃ W5, w4.alloc (.cells #[.int .i64 65, .int .i64 (-1), .int .i64 0, .slice va 0 vc] 33) = W5 := ⟨_, rfl⟩
  have b5 : Below w4.heap.size w4 W5 := by rw [← hW5]; exact (Below.refl _ _).alloc (Nat.le_refl _) _
  have row5 : W5.heap[w4.heap.size]? = some (.cells #[.int .i64 65, .int .i64 (-1), .int .i64 0, .slice va 0 vc] 33 (0, 0)) := by rw [← hW5]; exact heap_alloc_new _ _
  have i0 : W5.cell? ⟨w4.heap.size, 0, none⟩ = some (.int .i64 65) := cell_of_row W5 _ 0 _ _ _ row5
  have i1 : W5.cell? ⟨w4.heap.size, 1, none⟩ = some (.int .i64 (-1)) := cell_of_row W5 _ 1 _ _ _ row5
  replace q1 := cell_later b5 q1
  replace q5 := cell_later b5 q5
  have C5 := Lib.hid (C4.out.trans (b5.mono C4.out.size))
  rw [hW5]
  clear hW5 b5 row5
  go_wp2_with fail
  refine (module_nil W5).mono ?_
  rintro e w6 ⟨rfl, c6⟩
  replace q1 := cell_later c6 q1
  replace q5 := cell_later c6 q5
  replace i0 := cell_later c6 i0
  replace i1 := cell_later c6 i1
  have C6 := Lib.hid (C5.out.trans (c6.mono C5.out.size))
  clear c6
  go_upto_region 4 with fail
  obtain ⟨W7, hW7⟩ : ∃ W7, w6.alloc (.cells #[.slice none 0 0, .slice none 0 0, .slice none 0 0, .slice none 0 0, .slice none 0 0, .int .i64 0, .slice none 0 0] 29) = W7 := ⟨_, rfl⟩
  have b7 : Below w6.heap.size w6 W7 := by rw [← hW7]; exact (Below.refl _ _).alloc (Nat.le_refl _) _
  replace q1 := cell_later b7 q1
  replace q5 := cell_later b7 q5
  replace i0 := cell_later b7 i0
  replace i1 := cell_later b7 i1
  have C7 := Lib.hid (C6.out.trans (b7.mono C6.out.size))
  rw [hW7]
  clear hW7 b7
  go_wp2_with fail
  go_ret
  exact ⟨rfl, C7.out⟩
end Go.Proofs.YteidhccnbfikcaaGreatDoor.Dec
