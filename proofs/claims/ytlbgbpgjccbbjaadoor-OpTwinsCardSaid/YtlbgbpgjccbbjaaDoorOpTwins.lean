/-
  The walk of OpTwins: it answers true. No condition beyond what the theorem names.
-/
import Derived.Test.YtlbgbpgjccbbjaaDoorOpEx
import Derived.Test.YtlbgbpgjccbbjaaDoorOpRangesW
import Derived.Lib.IndexBytes
namespace Go.Proofs.YtlbgbpgjccbbjaaDoor.Op
open Go.RowKit Go.Maps
set_option linter.unusedVariables false
def twinB (a b : Int) (want : List UInt8) : Bool := match opInfo a, opInfo b with
  | some i, some j => decide (5 ≤ i.name.size) && decide (5 ≤ j.name.size) && (i.name.data.toList.drop 4 == j.name.data.toList.drop 4) && (i.name.data.toList.take 4 == [105, 51, 50, 46]) && (j.name.data.toList.take 4 == [105, 54, 52, 46]) && (i.results.data.toList == [127]) && (j.results.data.toList == want) && (i.params.size == j.params.size)
  | _, _ => false
theorem twins_low : ((List.range 11).all fun k => twinB (69 + k) (80 + k) [127]) = true := by kernel_rfl
theorem twins_high : ((List.range 18).all fun k => twinB (103 + k) (121 + k) [126]) = true := by kernel_rfl
set_option maxRecDepth 100000 in
set_option maxHeartbeats 2000000 in
theorem twins_lo (n k : Nat) (w : World) (hE : OpEnv w) (hk : (n : Int) % 29 = (k : Int)) (hk2 : k ≤ 10) (nm p r jm jp jr : ByteArray) (sh jh : Int) (hi : Hid (opInfo (69 + (k : Int)) = some ⟨nm, sh, p, r⟩)) (hj : Hid (opInfo (80 + (k : Int)) = some ⟨jm, jh, jp, jr⟩))
    (z1 : 5 ≤ nm.size) (z2 : 5 ≤ jm.size) (q1 : ((nm.extract 4 nm.size).toList == (jm.extract 4 jm.size).toList) = true) (q2 : (nm.extract 0 4).toList = [105, 51, 50, 46]) (q3 : (jm.extract 0 4).toList = [105, 54, 52, 46])
    (q4 : r.toList = [127]) (q5 : jr.toList = [127]) (q6 : ((p.size : Int) == (jp.size : Int)) = true) :
    Calls Tryd.prog 6 #[.int .u8 n] w fun e w' => e = .returned (.bool true) ∧ Below w.heap.size w w' := by
  have HE := Lib.hid hE
  clear hE
  go_enter Tryd.func6, Tryd.ntmps6
  go_wp2_with fail
  refine (examples_any _ HE.out).mono ?_
  rintro e w0 ⟨rfl, b0⟩
  go_wp2_with fail
  refine (of_lit (69 + (k : Int)) _ (opEnv_later HE.out b0) (by simp [Lit.wf, IntKind.min, IntKind.max, IntKind.signed, IntKind.bits]; omega) nm p r sh true (by rw [hi.out]; rfl) (by rw [hi.out]; rfl)).mono ?_
  rintro e w1 ⟨rfl, c1⟩
  have b1 := b0.trans (c1.mono b0.size)
  have B1 := b1.alloc b1.size (.cells #[.string nm, .int .i64 sh, .string p, .string r] 24)
  go_wp2_with fail
  refine (of_lit (80 + (k : Int)) _ (opEnv_later HE.out B1) (by simp [Lit.wf, IntKind.min, IntKind.max, IntKind.signed, IntKind.bits]; omega) jm jp jr jh true (by rw [hj.out]; rfl) (by rw [hj.out]; rfl)).mono ?_
  rintro e w2 ⟨rfl, c2⟩
  have s1 : w1.heap.size < w2.heap.size := by have := c2.size; simp at this; omega
  have r0 : w2.cell? ⟨w1.heap.size, 0, none⟩ = some (.string nm) := cell_later c2 (by simp)
  have r2 : w2.cell? ⟨w1.heap.size, 2, none⟩ = some (.string p) := cell_later c2 (by simp)
  have r3 : w2.cell? ⟨w1.heap.size, 3, none⟩ = some (.string r) := cell_later c2 (by simp)
  have B2 := B1.trans (c2.mono B1.size)
  go_wp2_with fail
  have f1 : ∀ w : World, (Instr.slice 9 (.string nm) (some (.int .i64 4)) none none).run Tryd.prog w = .ok (.string (nm.extract 4 nm.size)) w := fun w => run_slice_string_l w _ nm Tryd.underlying9 .i64 4 (by decide) (by omega)
  have f2 : ∀ w : World, (Instr.slice 9 (.string jm) (some (.int .i64 4)) none none).run Tryd.prog w = .ok (.string (jm.extract 4 jm.size)) w := fun w => run_slice_string_l w _ jm Tryd.underlying9 .i64 4 (by decide) (by omega)
  have f3 : ∀ w : World, (Instr.slice 9 (.string nm) none (some (.int .i64 4)) none).run Tryd.prog w = .ok (.string (nm.extract 0 4)) w := fun w => run_slice_string_h w _ nm Tryd.underlying9 .i64 4 (by decide) (by omega)
  have f4 : ∀ w : World, (Instr.slice 9 (.string jm) none (some (.int .i64 4)) none).run Tryd.prog w = .ok (.string (jm.extract 0 4)) w := fun w => run_slice_string_h w _ jm Tryd.underlying9 .i64 4 (by decide) (by omega)
  go_quiet (fail)
  go_wp2_with fail
  go_ret
  exact ⟨rfl, (B2.alloc B2.size _).trans ⟨rfl, rfl, rfl, Nat.le_refl _, fun _ _ => rfl⟩⟩
set_option maxRecDepth 100000 in
set_option maxHeartbeats 2000000 in
theorem twins_hi (n k : Nat) (w : World) (hE : OpEnv w) (hk : (n : Int) % 29 = (k : Int)) (m : Nat) (hk2 : k = 11 + m) (hm : m < 18) (nm p r jm jp jr : ByteArray) (sh jh : Int) (hi : Hid (opInfo (103 + (m : Int)) = some ⟨nm, sh, p, r⟩)) (hj : Hid (opInfo (121 + (m : Int)) = some ⟨jm, jh, jp, jr⟩))
    (z1 : 5 ≤ nm.size) (z2 : 5 ≤ jm.size) (q1 : ((nm.extract 4 nm.size).toList == (jm.extract 4 jm.size).toList) = true) (q2 : (nm.extract 0 4).toList = [105, 51, 50, 46]) (q3 : (jm.extract 0 4).toList = [105, 54, 52, 46])
    (q4 : r.toList = [127]) (q5 : jr.toList = [126]) (q6 : ((p.size : Int) == (jp.size : Int)) = true) :
    Calls Tryd.prog 6 #[.int .u8 n] w fun e w' => e = .returned (.bool true) ∧ Below w.heap.size w w' := by
  have HE := Lib.hid hE
  have g1 : 103 + (k : Int) - 11 = 103 + (m : Int) := by omega
  have g2 : 121 + (k : Int) - 11 = 121 + (m : Int) := by omega
  have g3 : 11 ≤ k := by omega
  have g4 : k < 29 := by omega
  clear hk2
  clear hE
  go_enter Tryd.func6, Tryd.ntmps6
  go_wp2_with fail
  refine (examples_any _ HE.out).mono ?_
  rintro e w0 ⟨rfl, b0⟩
  go_wp2_with fail
  refine (of_lit (103 + (m : Int)) _ (opEnv_later HE.out b0) (by simp [Lit.wf, IntKind.min, IntKind.max, IntKind.signed, IntKind.bits]; omega) nm p r sh true (by rw [hi.out]; rfl) (by rw [hi.out]; rfl)).mono ?_
  rintro e w1 ⟨rfl, c1⟩
  have b1 := b0.trans (c1.mono b0.size)
  have B1 := b1.alloc b1.size (.cells #[.string nm, .int .i64 sh, .string p, .string r] 24)
  go_wp2_with fail
  refine (of_lit (121 + (m : Int)) _ (opEnv_later HE.out B1) (by simp [Lit.wf, IntKind.min, IntKind.max, IntKind.signed, IntKind.bits]; omega) jm jp jr jh true (by rw [hj.out]; rfl) (by rw [hj.out]; rfl)).mono ?_
  rintro e w2 ⟨rfl, c2⟩
  have s1 : w1.heap.size < w2.heap.size := by have := c2.size; simp at this; omega
  have r0 : w2.cell? ⟨w1.heap.size, 0, none⟩ = some (.string nm) := cell_later c2 (by simp)
  have r2 : w2.cell? ⟨w1.heap.size, 2, none⟩ = some (.string p) := cell_later c2 (by simp)
  have r3 : w2.cell? ⟨w1.heap.size, 3, none⟩ = some (.string r) := cell_later c2 (by simp)
  have B2 := B1.trans (c2.mono B1.size)
  go_wp2_with fail
  have f1 : ∀ w : World, (Instr.slice 9 (.string nm) (some (.int .i64 4)) none none).run Tryd.prog w = .ok (.string (nm.extract 4 nm.size)) w := fun w => run_slice_string_l w _ nm Tryd.underlying9 .i64 4 (by decide) (by omega)
  have f2 : ∀ w : World, (Instr.slice 9 (.string jm) (some (.int .i64 4)) none none).run Tryd.prog w = .ok (.string (jm.extract 4 jm.size)) w := fun w => run_slice_string_l w _ jm Tryd.underlying9 .i64 4 (by decide) (by omega)
  have f3 : ∀ w : World, (Instr.slice 9 (.string nm) none (some (.int .i64 4)) none).run Tryd.prog w = .ok (.string (nm.extract 0 4)) w := fun w => run_slice_string_h w _ nm Tryd.underlying9 .i64 4 (by decide) (by omega)
  have f4 : ∀ w : World, (Instr.slice 9 (.string jm) none (some (.int .i64 4)) none).run Tryd.prog w = .ok (.string (jm.extract 0 4)) w := fun w => run_slice_string_h w _ jm Tryd.underlying9 .i64 4 (by decide) (by omega)
  go_quiet (fail)
  go_wp2_with fail
  go_ret
  exact ⟨rfl, (B2.alloc B2.size _).trans ⟨rfl, rfl, rfl, Nat.le_refl _, fun _ _ => rfl⟩⟩
theorem ext_tail (a b : ByteArray) (h : a.data.toList.drop 4 = b.data.toList.drop 4) : ((a.extract 4 a.size).toList == (b.extract 4 b.size).toList) = true :=
  eqT (by rw [Lib.extract_to_end, Lib.extract_to_end, h])
theorem ext_head (a : ByteArray) (l : List UInt8) (h : a.data.toList.take 4 = l) : (a.extract 0 4).toList = l := by
  rw [ByteArray.toList_eq, Lib.extract_data, ← h]
  simp
theorem twins_walk (n : Nat) (w : World) (hE : OpEnv w) :
    Calls Tryd.prog 6 #[.int .u8 n] w fun e w' => e = .returned (.bool true) ∧ Below w.heap.size w w' := by
  obtain ⟨k, hk⟩ : ∃ k : Nat, (n : Int) % 29 = (k : Int) := ⟨n % 29, by omega⟩
  have parts : ∀ (a b : Int) (want : List UInt8), twinB a b want = true → ∃ nm sh p r jm jh jp jr, opInfo a = some ⟨nm, sh, p, r⟩ ∧ opInfo b = some ⟨jm, jh, jp, jr⟩ ∧ 5 ≤ nm.size ∧ 5 ≤ jm.size ∧ nm.data.toList.drop 4 = jm.data.toList.drop 4 ∧ nm.data.toList.take 4 = [105, 51, 50, 46] ∧ jm.data.toList.take 4 = [105, 54, 52, 46] ∧ r.data.toList = [127] ∧ jr.data.toList = want ∧ p.size = jp.size := by
    intro a b want h
    unfold twinB at h
    cases ha : opInfo a with
    | none => rw [ha] at h; cases h
    | some i =>
      cases hb : opInfo b with
      | none => rw [ha, hb] at h; cases h
      | some j =>
        rw [ha, hb] at h
        simp only [Bool.and_eq_true, decide_eq_true_eq, beq_iff_eq] at h
        obtain ⟨nm, sh, p, r⟩ := i
        obtain ⟨jm, jh, jp, jr⟩ := j
        exact ⟨nm, sh, p, r, jm, jh, jp, jr, rfl, rfl, h.1.1.1.1.1.1.1, h.1.1.1.1.1.1.2, h.1.1.1.1.1.2, h.1.1.1.1.2, h.1.1.1.2, h.1.1.2, h.1.2, h.2⟩
  by_cases h10 : k ≤ 10
  · have h := List.all_eq_true.1 twins_low k (List.mem_range.2 (by omega))
    obtain ⟨nm, sh, p, r, jm, jh, jp, jr, ha, hb, z1, z2, q1, q2, q3, q4, q5, q6⟩ := parts _ _ _ h
    exact twins_lo n k w hE hk h10 nm p r jm jp jr sh jh (Lib.hid ha) (Lib.hid hb) z1 z2 (ext_tail _ _ q1) (ext_head _ _ q2) (ext_head _ _ q3) ((ByteArray.toList_eq _).trans q4) ((ByteArray.toList_eq _).trans q5) (by simp [q6])
  · have hm : k - 11 < 18 := by omega
    have h := List.all_eq_true.1 twins_high (k - 11) (List.mem_range.2 hm)
    obtain ⟨nm, sh, p, r, jm, jh, jp, jr, ha, hb, z1, z2, q1, q2, q3, q4, q5, q6⟩ := parts _ _ _ h
    exact twins_hi n k w hE hk (k - 11) (by omega) hm nm p r jm jp jr sh jh (Lib.hid ha) (Lib.hid hb) z1 z2 (ext_tail _ _ q1) (ext_head _ _ q2) (ext_head _ _ q3) ((ByteArray.toList_eq _).trans q4) ((ByteArray.toList_eq _).trans q5) (by simp [q6])
end Go.Proofs.YtlbgbpgjccbbjaaDoor.Op
