/-
  The walk of OpNames: it answers true. No condition beyond what the theorem names.
-/
import Derived.Test.YtlbgbpgjccbbjaaDoorOpEx
import Derived.Test.YtlbgbpgjccbbjaaDoorOpRangesW
namespace Go.Proofs.YtlbgbpgjccbbjaaDoor.Op
open Go.RowKit Go.Maps
set_option linter.unusedVariables false
theorem types_all : (tableL.all fun e => ((e.2.params ++ e.2.results).data.toList.all fun b => b == 127 || b == 126) && decide (e.2.params.size ≤ 2) && decide (e.2.results.size ≤ 1) && !floatB e.1) = true := by kernel_rfl
theorem types_ok {c : Int} {i : Info} (h : opInfo c = some i) : (∀ b ∈ (i.params ++ i.results).data.toList, b = 127 ∨ b = 126) ∧ i.params.size ≤ 2 ∧ i.results.size ≤ 1 ∧ floatB c = false := by
  have h1 := List.all_eq_true.1 types_all _ (opInfo_mem h)
  simp only [Bool.and_eq_true, decide_eq_true_eq, List.all_eq_true, Bool.or_eq_true, beq_iff_eq, Bool.not_eq_true'] at h1
  exact ⟨h1.1.1.1, h1.1.1.2, h1.1.2, h1.2⟩
theorem code_empty : codeOf [] = none := by kernel_rfl
set_option maxRecDepth 100000 in
set_option maxHeartbeats 2000000 in
theorem names_none (a b : Nat) (w : World) (hE : OpEnv w) (ha : a < 256) (hb : b < 256) (hi : opInfo (a : Int) = none) (j : Info) (jb : Bool) (hj : (opInfo (b : Int)).getD zeroI = j) (hjb : (opInfo (b : Int)).isSome = jb) :
    Calls Tryd.prog 5 #[.int .u8 a, .int .u8 b] w fun e w' => e = .returned (.bool true) ∧ Below w.heap.size w w' := by
  obtain ⟨jm, jh, jp, jr⟩ := j
  have HE := Lib.hid hE
  have HI := Lib.hid hi
  have HJ := Lib.hid hj
  have HJB := Lib.hid hjb
  have HW := Lib.hid (wf8 a ha)
  have HW2 := Lib.hid (wf8 b hb)
  clear hE hi hj hjb
  go_enter Tryd.func5, Tryd.ntmps5
  go_wp2_with fail
  refine (examples_any _ HE.out).mono ?_
  rintro e w0 ⟨rfl, b0⟩
  go_wp2_with fail
  refine (of_lit a _ (opEnv_later HE.out b0) HW.out ⟨#[]⟩ ⟨#[]⟩ ⟨#[]⟩ 0 false (by rw [HI.out]; rfl) (by rw [HI.out]; rfl)).mono ?_
  rintro e w1 ⟨rfl, c1⟩
  have b1 := b0.trans (c1.mono b0.size)
  have B1 := b1.alloc b1.size (.cells #[.string ⟨#[]⟩, .int .i64 0, .string ⟨#[]⟩, .string ⟨#[]⟩] 24)
  go_wp2_with fail
  refine (of_lit b _ (opEnv_later HE.out B1) HW2.out jm jp jr jh jb HJ.out HJB.out).mono ?_
  rintro e w2 ⟨rfl, c2⟩
  have s1 : w1.heap.size < w2.heap.size := by have := c2.size; simp at this; omega
  have r0 : w2.cell? ⟨w1.heap.size, 0, none⟩ = some (.string ⟨#[]⟩) := cell_later c2 (by simp)
  have r1 : w2.cell? ⟨w1.heap.size, 1, none⟩ = some (.int .i64 0) := cell_later c2 (by simp)
  have r2 : w2.cell? ⟨w1.heap.size, 2, none⟩ = some (.string ⟨#[]⟩) := cell_later c2 (by simp)
  have r3 : w2.cell? ⟨w1.heap.size, 3, none⟩ = some (.string ⟨#[]⟩) := cell_later c2 (by simp)
  have B2 := B1.trans (c2.mono B1.size)
  have B3 := B2.alloc B2.size (.cells #[.string jm, .int .i64 jh, .string jp, .string jr] 24)
  clear c1 c2 b0 b1 B1
  go_wp2_with fail
  refine (code_any _ _ (opEnv_later HE.out B3) 0 false (congrArg (fun o => Option.getD o 0) code_empty) (congrArg Option.isSome code_empty)).mono ?_
  rintro e w3 ⟨rfl, c3⟩
  have q0 : w3.cell? ⟨w1.heap.size, 0, none⟩ = some (.string ⟨#[]⟩) := cell_later c3 ((World.cell?_alloc_past _ _ _ s1).trans r0)
  have q1 : w3.cell? ⟨w1.heap.size, 1, none⟩ = some (.int .i64 0) := cell_later c3 ((World.cell?_alloc_past _ _ _ s1).trans r1)
  have q2 : w3.cell? ⟨w1.heap.size, 2, none⟩ = some (.string ⟨#[]⟩) := cell_later c3 ((World.cell?_alloc_past _ _ _ s1).trans r2)
  have q3 : w3.cell? ⟨w1.heap.size, 3, none⟩ = some (.string ⟨#[]⟩) := cell_later c3 ((World.cell?_alloc_past _ _ _ s1).trans r3)
  go_wp2_with fail
  go_ret
  exact ⟨rfl, B3.trans (c3.mono B3.size)⟩

set_option maxRecDepth 100000 in
set_option maxHeartbeats 2000000 in
theorem names_n (a b : Nat) (nm p r T jm jp jr : ByteArray) (sh jh : Int) (w : World) (hE : OpEnv w) (ha : a < 256) (hb : b < 256) (hi : opInfo (a : Int) = some ⟨nm, sh, p, r⟩) (jb : Bool) (hjb : jb = false) (hj : (opInfo (b : Int)).getD zeroI = ⟨jm, jh, jp, jr⟩) (hjs : (opInfo (b : Int)).isSome = jb)
    (hT : p ++ r = T) (hTs : T.size ≤ 3) (hp : p.size ≤ 2) (hr : r.size ≤ 1) (hTb : Hid (∀ k (h : k < T.size), T[k].toNat = 127 ∨ T[k].toNat = 126)) (hs0 : 0 ≤ sh) (hs7 : sh ≤ 7) (hF : floatB (a : Int) = false) :
    Calls Tryd.prog 5 #[.int .u8 a, .int .u8 b] w fun e w' => e = .returned (.bool true) ∧ Below w.heap.size w w' := by
  have HE := Lib.hid hE
  have HI := Lib.hid hi
  have HJ := Lib.hid hj
  subst hjb
  have HJS := Lib.hid hjs
  clear hjs
  have HW := Lib.hid (wf8 a ha)
  have HW2 := Lib.hid (wf8 b hb)
  have HF := Lib.hid hF
  have HCD := Lib.hid (code_of hi rfl)
  clear hE hi hj hF
  go_enter Tryd.func5, Tryd.ntmps5
  go_wp2_with fail
  refine (examples_any _ HE.out).mono ?_
  rintro e w0 ⟨rfl, b0⟩
  go_wp2_with fail
  refine (of_lit a _ (opEnv_later HE.out b0) HW.out nm p r sh true (by rw [HI.out]; rfl) (by rw [HI.out]; rfl)).mono ?_
  rintro e w1 ⟨rfl, c1⟩
  have b1 := b0.trans (c1.mono b0.size)
  have B1 := b1.alloc b1.size (.cells #[.string nm, .int .i64 sh, .string p, .string r] 24)
  go_wp2_with fail
  refine (of_lit b _ (opEnv_later HE.out B1) HW2.out jm jp jr jh false HJ.out HJS.out).mono ?_
  rintro e w2 ⟨rfl, c2⟩
  have s1 : w1.heap.size < w2.heap.size := by have := c2.size; simp at this; omega
  have r0 : w2.cell? ⟨w1.heap.size, 0, none⟩ = some (.string nm) := cell_later c2 (by simp)
  have r1 : w2.cell? ⟨w1.heap.size, 1, none⟩ = some (.int .i64 sh) := cell_later c2 (by simp)
  have r2 : w2.cell? ⟨w1.heap.size, 2, none⟩ = some (.string p) := cell_later c2 (by simp)
  have r3 : w2.cell? ⟨w1.heap.size, 3, none⟩ = some (.string r) := cell_later c2 (by simp)
  have B2 := B1.trans (c2.mono B1.size)
  have B3 := B2.alloc B2.size (.cells #[.string jm, .int .i64 jh, .string jp, .string jr] 24)
  clear c1 c2 b0 b1 B1
  go_wp2_with fail
  refine (code_any nm _ (opEnv_later HE.out B3) a true (by rw [HCD.out]; rfl) (by rw [HCD.out]; rfl)).mono ?_
  rintro e w3 ⟨rfl, c3⟩
  have q0 : w3.cell? ⟨w1.heap.size, 0, none⟩ = some (.string nm) := cell_later c3 ((World.cell?_alloc_past _ _ _ s1).trans r0)
  have q1 : w3.cell? ⟨w1.heap.size, 1, none⟩ = some (.int .i64 sh) := cell_later c3 ((World.cell?_alloc_past _ _ _ s1).trans r1)
  have q2 : w3.cell? ⟨w1.heap.size, 2, none⟩ = some (.string p) := cell_later c3 ((World.cell?_alloc_past _ _ _ s1).trans r2)
  have q3 : w3.cell? ⟨w1.heap.size, 3, none⟩ = some (.string r) := cell_later c3 ((World.cell?_alloc_past _ _ _ s1).trans r3)
  have p0 : w3.cell? ⟨w2.heap.size, 0, none⟩ = some (.string jm) := cell_later c3 (by simp)
  have s2 : w2.heap.size < w3.heap.size := by have := c3.size; simp at this; omega
  have B4 := B3.trans (c3.mono B3.size)
  clear c3 r0 r1 r2 r3
  go_wp2_with fail
  go_loop [13] (fun i => ∃ k : Nat, k ≤ T.size ∧ i = .int .i64 k) (fun i => T.size - (intOf i).toNat)
  case atStart => exact ⟨0, Nat.zero_le _, rfl⟩
  case round =>
    obtain ⟨k, hk, rfl⟩ := hrel
    by_cases hlt : k < T.size
    · rcases hTb.out k hlt with h | h
      · have h1 : ((T[k].toNat : Int) != 127) = false := by simp [h]
        go_wp2_with fail
        go_round
        case rel => exact ⟨k + 1, by omega, by go_num⟩
        case measure => simp [intOf]; omega
      · have h1 : ((T[k].toNat : Int) != 127) = true := by simp [h]
        have h2 : ((T[k].toNat : Int) != 126) = false := by simp [h]
        go_wp2_with fail
        go_round
        case rel => exact ⟨k + 1, by omega, by go_num⟩
        case measure => simp [intOf]; omega
    · obtain rfl : k = T.size := by omega
      have hd : decide (T.size < T.size) = false := by simp
      go_wp2_with fail
      refine (float_any a _).mono ?_
      rintro e w4 ⟨rfl, c4⟩
      have t1 : w4.cell? ⟨w1.heap.size, 1, none⟩ = some (.int .i64 sh) := cell_later c4 q1
      rw [HF.out]
      go_wp2_with fail
      go_ret
      exact ⟨rfl, B4.trans (c4.mono B4.size)⟩

set_option maxRecDepth 100000 in
set_option maxHeartbeats 2000000 in
theorem names_d (a b : Nat) (nm p r T jm jp jr : ByteArray) (sh jh : Int) (w : World) (hE : OpEnv w) (ha : a < 256) (hb : b < 256) (hi : opInfo (a : Int) = some ⟨nm, sh, p, r⟩) (hj : opInfo (b : Int) = some ⟨jm, jh, jp, jr⟩) (hne : nm.data.toList ≠ jm.data.toList) (hab : ((a : Int) == (b : Int)) = false)
    (hT : p ++ r = T) (hTs : T.size ≤ 3) (hp : p.size ≤ 2) (hr : r.size ≤ 1) (hTb : Hid (∀ k (h : k < T.size), T[k].toNat = 127 ∨ T[k].toNat = 126)) (hs0 : 0 ≤ sh) (hs7 : sh ≤ 7) (hF : floatB (a : Int) = false) :
    Calls Tryd.prog 5 #[.int .u8 a, .int .u8 b] w fun e w' => e = .returned (.bool true) ∧ Below w.heap.size w w' := by
  have HE := Lib.hid hE
  have HI := Lib.hid hi
  have HJ := Lib.hid hj
  have hq := eqF hne
  clear hne
  have HW := Lib.hid (wf8 a ha)
  have HW2 := Lib.hid (wf8 b hb)
  have HF := Lib.hid hF
  have HCD := Lib.hid (code_of hi rfl)
  clear hE hi hj hF
  go_enter Tryd.func5, Tryd.ntmps5
  go_wp2_with fail
  refine (examples_any _ HE.out).mono ?_
  rintro e w0 ⟨rfl, b0⟩
  go_wp2_with fail
  refine (of_lit a _ (opEnv_later HE.out b0) HW.out nm p r sh true (by rw [HI.out]; rfl) (by rw [HI.out]; rfl)).mono ?_
  rintro e w1 ⟨rfl, c1⟩
  have b1 := b0.trans (c1.mono b0.size)
  have B1 := b1.alloc b1.size (.cells #[.string nm, .int .i64 sh, .string p, .string r] 24)
  go_wp2_with fail
  refine (of_lit b _ (opEnv_later HE.out B1) HW2.out jm jp jr jh true (by rw [HJ.out]; rfl) (by rw [HJ.out]; rfl)).mono ?_
  rintro e w2 ⟨rfl, c2⟩
  have s1 : w1.heap.size < w2.heap.size := by have := c2.size; simp at this; omega
  have r0 : w2.cell? ⟨w1.heap.size, 0, none⟩ = some (.string nm) := cell_later c2 (by simp)
  have r1 : w2.cell? ⟨w1.heap.size, 1, none⟩ = some (.int .i64 sh) := cell_later c2 (by simp)
  have r2 : w2.cell? ⟨w1.heap.size, 2, none⟩ = some (.string p) := cell_later c2 (by simp)
  have r3 : w2.cell? ⟨w1.heap.size, 3, none⟩ = some (.string r) := cell_later c2 (by simp)
  have B2 := B1.trans (c2.mono B1.size)
  have B3 := B2.alloc B2.size (.cells #[.string jm, .int .i64 jh, .string jp, .string jr] 24)
  clear c1 c2 b0 b1 B1
  go_wp2_with fail
  refine (code_any nm _ (opEnv_later HE.out B3) a true (by rw [HCD.out]; rfl) (by rw [HCD.out]; rfl)).mono ?_
  rintro e w3 ⟨rfl, c3⟩
  have q0 : w3.cell? ⟨w1.heap.size, 0, none⟩ = some (.string nm) := cell_later c3 ((World.cell?_alloc_past _ _ _ s1).trans r0)
  have q1 : w3.cell? ⟨w1.heap.size, 1, none⟩ = some (.int .i64 sh) := cell_later c3 ((World.cell?_alloc_past _ _ _ s1).trans r1)
  have q2 : w3.cell? ⟨w1.heap.size, 2, none⟩ = some (.string p) := cell_later c3 ((World.cell?_alloc_past _ _ _ s1).trans r2)
  have q3 : w3.cell? ⟨w1.heap.size, 3, none⟩ = some (.string r) := cell_later c3 ((World.cell?_alloc_past _ _ _ s1).trans r3)
  have p0 : w3.cell? ⟨w2.heap.size, 0, none⟩ = some (.string jm) := cell_later c3 (by simp)
  have s2 : w2.heap.size < w3.heap.size := by have := c3.size; simp at this; omega
  have B4 := B3.trans (c3.mono B3.size)
  clear c3 r0 r1 r2 r3
  go_wp2_with fail
  go_loop [13] (fun i => ∃ k : Nat, k ≤ T.size ∧ i = .int .i64 k) (fun i => T.size - (intOf i).toNat)
  case atStart => exact ⟨0, Nat.zero_le _, rfl⟩
  case round =>
    obtain ⟨k, hk, rfl⟩ := hrel
    by_cases hlt : k < T.size
    · rcases hTb.out k hlt with h | h
      · have h1 : ((T[k].toNat : Int) != 127) = false := by simp [h]
        go_wp2_with fail
        go_round
        case rel => exact ⟨k + 1, by omega, by go_num⟩
        case measure => simp [intOf]; omega
      · have h1 : ((T[k].toNat : Int) != 127) = true := by simp [h]
        have h2 : ((T[k].toNat : Int) != 126) = false := by simp [h]
        go_wp2_with fail
        go_round
        case rel => exact ⟨k + 1, by omega, by go_num⟩
        case measure => simp [intOf]; omega
    · obtain rfl : k = T.size := by omega
      have hd : decide (T.size < T.size) = false := by simp
      go_wp2_with fail
      refine (float_any a _).mono ?_
      rintro e w4 ⟨rfl, c4⟩
      have t1 : w4.cell? ⟨w1.heap.size, 1, none⟩ = some (.int .i64 sh) := cell_later c4 q1
      rw [HF.out]
      go_wp2_with fail
      go_ret
      exact ⟨rfl, B4.trans (c4.mono B4.size)⟩

set_option maxRecDepth 100000 in
set_option maxHeartbeats 2000000 in
theorem names_s (a b : Nat) (nm p r T jm jp jr : ByteArray) (sh jh : Int) (w : World) (hE : OpEnv w) (ha : a < 256) (hb : b < 256) (hi : opInfo (a : Int) = some ⟨nm, sh, p, r⟩) (hj : opInfo (b : Int) = some ⟨jm, jh, jp, jr⟩) (hne : nm.data.toList = jm.data.toList) (hab : ((a : Int) == (b : Int)) = true)
    (hT : p ++ r = T) (hTs : T.size ≤ 3) (hp : p.size ≤ 2) (hr : r.size ≤ 1) (hTb : Hid (∀ k (h : k < T.size), T[k].toNat = 127 ∨ T[k].toNat = 126)) (hs0 : 0 ≤ sh) (hs7 : sh ≤ 7) (hF : floatB (a : Int) = false) :
    Calls Tryd.prog 5 #[.int .u8 a, .int .u8 b] w fun e w' => e = .returned (.bool true) ∧ Below w.heap.size w w' := by
  have HE := Lib.hid hE
  have HI := Lib.hid hi
  have HJ := Lib.hid hj
  have hq := eqT hne
  clear hne
  have HW := Lib.hid (wf8 a ha)
  have HW2 := Lib.hid (wf8 b hb)
  have HF := Lib.hid hF
  have HCD := Lib.hid (code_of hi rfl)
  clear hE hi hj hF
  go_enter Tryd.func5, Tryd.ntmps5
  go_wp2_with fail
  refine (examples_any _ HE.out).mono ?_
  rintro e w0 ⟨rfl, b0⟩
  go_wp2_with fail
  refine (of_lit a _ (opEnv_later HE.out b0) HW.out nm p r sh true (by rw [HI.out]; rfl) (by rw [HI.out]; rfl)).mono ?_
  rintro e w1 ⟨rfl, c1⟩
  have b1 := b0.trans (c1.mono b0.size)
  have B1 := b1.alloc b1.size (.cells #[.string nm, .int .i64 sh, .string p, .string r] 24)
  go_wp2_with fail
  refine (of_lit b _ (opEnv_later HE.out B1) HW2.out jm jp jr jh true (by rw [HJ.out]; rfl) (by rw [HJ.out]; rfl)).mono ?_
  rintro e w2 ⟨rfl, c2⟩
  have s1 : w1.heap.size < w2.heap.size := by have := c2.size; simp at this; omega
  have r0 : w2.cell? ⟨w1.heap.size, 0, none⟩ = some (.string nm) := cell_later c2 (by simp)
  have r1 : w2.cell? ⟨w1.heap.size, 1, none⟩ = some (.int .i64 sh) := cell_later c2 (by simp)
  have r2 : w2.cell? ⟨w1.heap.size, 2, none⟩ = some (.string p) := cell_later c2 (by simp)
  have r3 : w2.cell? ⟨w1.heap.size, 3, none⟩ = some (.string r) := cell_later c2 (by simp)
  have B2 := B1.trans (c2.mono B1.size)
  have B3 := B2.alloc B2.size (.cells #[.string jm, .int .i64 jh, .string jp, .string jr] 24)
  clear c1 c2 b0 b1 B1
  go_wp2_with fail
  refine (code_any nm _ (opEnv_later HE.out B3) a true (by rw [HCD.out]; rfl) (by rw [HCD.out]; rfl)).mono ?_
  rintro e w3 ⟨rfl, c3⟩
  have q0 : w3.cell? ⟨w1.heap.size, 0, none⟩ = some (.string nm) := cell_later c3 ((World.cell?_alloc_past _ _ _ s1).trans r0)
  have q1 : w3.cell? ⟨w1.heap.size, 1, none⟩ = some (.int .i64 sh) := cell_later c3 ((World.cell?_alloc_past _ _ _ s1).trans r1)
  have q2 : w3.cell? ⟨w1.heap.size, 2, none⟩ = some (.string p) := cell_later c3 ((World.cell?_alloc_past _ _ _ s1).trans r2)
  have q3 : w3.cell? ⟨w1.heap.size, 3, none⟩ = some (.string r) := cell_later c3 ((World.cell?_alloc_past _ _ _ s1).trans r3)
  have p0 : w3.cell? ⟨w2.heap.size, 0, none⟩ = some (.string jm) := cell_later c3 (by simp)
  have s2 : w2.heap.size < w3.heap.size := by have := c3.size; simp at this; omega
  have B4 := B3.trans (c3.mono B3.size)
  clear c3 r0 r1 r2 r3
  go_wp2_with fail
  go_loop [13] (fun i => ∃ k : Nat, k ≤ T.size ∧ i = .int .i64 k) (fun i => T.size - (intOf i).toNat)
  case atStart => exact ⟨0, Nat.zero_le _, rfl⟩
  case round =>
    obtain ⟨k, hk, rfl⟩ := hrel
    by_cases hlt : k < T.size
    · rcases hTb.out k hlt with h | h
      · have h1 : ((T[k].toNat : Int) != 127) = false := by simp [h]
        go_wp2_with fail
        go_round
        case rel => exact ⟨k + 1, by omega, by go_num⟩
        case measure => simp [intOf]; omega
      · have h1 : ((T[k].toNat : Int) != 127) = true := by simp [h]
        have h2 : ((T[k].toNat : Int) != 126) = false := by simp [h]
        go_wp2_with fail
        go_round
        case rel => exact ⟨k + 1, by omega, by go_num⟩
        case measure => simp [intOf]; omega
    · obtain rfl : k = T.size := by omega
      have hd : decide (T.size < T.size) = false := by simp
      go_wp2_with fail
      refine (float_any a _).mono ?_
      rintro e w4 ⟨rfl, c4⟩
      have t1 : w4.cell? ⟨w1.heap.size, 1, none⟩ = some (.int .i64 sh) := cell_later c4 q1
      rw [HF.out]
      go_wp2_with fail
      go_ret
      exact ⟨rfl, B4.trans (c4.mono B4.size)⟩

theorem names_walk (a b : Nat) (w : World) (hE : OpEnv w) (ha : a < 256) (hb : b < 256) :
    Calls Tryd.prog 5 #[.int .u8 a, .int .u8 b] w fun e w' => e = .returned (.bool true) ∧ Below w.heap.size w w' := by
  cases hi : opInfo (a : Int) with
  | none => exact names_none a b w hE ha hb hi _ _ rfl rfl
  | some i =>
    obtain ⟨t1, t2, t3, t4⟩ := types_ok hi
    obtain ⟨s0, s1⟩ := shape_range hi
    obtain ⟨nm, sh, p, r⟩ := i
    simp only at t1 t2 t3 s0 s1
    have hTb : ∀ k (h : k < (p ++ r).size), (p ++ r)[k].toNat = 127 ∨ (p ++ r)[k].toNat = 126 := by
      intro k h
      have hm : (p ++ r)[k] ∈ (p ++ r).data.toList := by
        rw [Array.mem_toList_iff]
        exact Array.getElem_mem h
      rcases t1 _ hm with e | e
      · left; rw [e]; rfl
      · right; rw [e]; rfl
    have hTs : (p ++ r).size ≤ 3 := by rw [ByteArray.size_append]; omega
    cases hj : opInfo (b : Int) with
    | none => exact names_n a b nm p r _ ⟨#[]⟩ ⟨#[]⟩ ⟨#[]⟩ sh 0 w hE ha hb hi false rfl (by rw [hj]; rfl) (by rw [hj]; rfl) rfl hTs t2 t3 (Lib.hid hTb) s0 s1 t4
    | some j =>
      obtain ⟨jm, jh, jp, jr⟩ := j
      by_cases hab : a = b
      · subst hab
        rw [hi] at hj
        have e := Option.some.inj hj
        injection e with e1 e2 e3 e4
        subst e1; subst e2; subst e3; subst e4
        exact names_s a a nm p r _ nm p r sh sh w hE ha hb hi hi rfl (by simp) rfl hTs t2 t3 (Lib.hid hTb) s0 s1 t4
      · refine names_d a b nm p r _ jm jp jr sh jh w hE ha hb hi hj (fun hn => ?_) (beq_eq_false_iff_ne.2 (by omega)) rfl hTs t2 t3 (Lib.hid hTb) s0 s1 t4
        have c1 := code_of (nm := jm.data.toList) hi hn
        have c2 := code_of (nm := jm.data.toList) hj rfl
        rw [c1] at c2
        have := Option.some.inj c2
        omega
end Go.Proofs.YtlbgbpgjccbbjaaDoor.Op
