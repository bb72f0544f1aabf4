/-
  What OpInfos and OpRights of chapter 3 answer. No condition beyond what each theorem names.
-/
import Derived.Test.YtlbgbpgjccbbjaaDoorOpRefG
import Derived.Test.YtlbgbpgjccbbjaaDoorOpRightL
import Derived.Deep.RegionHeld3
namespace Go.Proofs.YtlbgbpgjccbbjaaDoor.Op
open Go.RowKit Go.Maps
set_option linter.unusedVariables false
theorem eqS (a : ByteArray) : (a.toList == a.toList) = true := by simp
set_option maxRecDepth 100000 in
set_option maxHeartbeats 2000000 in
theorem infos_walk (c : Int) (nm : ByteArray) (w : World) (hE : OpEnv w) (hc : (Lit.int .i64 c).wf = true) :
    Calls Tryd.prog 3 #[.int .i64 c, .string nm] w fun e w' => e = .returned (.bool true) ∧ Below w.heap.size w w' := by
  have HE := Lib.hid hE
  have HC := Lib.hid hc
  clear hE hc
  obtain ⟨⟨inm, ish, ipa, ire⟩, hi⟩ : ∃ i, (opInfo c).getD zeroI = i := ⟨_, rfl⟩
  obtain ⟨ok, hok⟩ : ∃ b, (opInfo c).isSome = b := ⟨_, rfl⟩
  obtain ⟨v, hv⟩ : ∃ v, (codeOf nm.data.toList).getD 0 = v := ⟨_, rfl⟩
  obtain ⟨fine, hf⟩ : ∃ b, (codeOf nm.data.toList).isSome = b := ⟨_, rfl⟩
  have HI := Lib.hid hi
  have HO := Lib.hid hok
  have HV := Lib.hid hv
  have HF := Lib.hid hf
  clear hi hok hv hf
  go_enter Tryd.func3, Tryd.ntmps3
  go_wp2_with fail
  refine (examples_any _ HE.out).mono ?_
  rintro e w1 ⟨rfl, B1⟩
  go_wp2_with fail
  refine (of_lit c _ (opEnv_later HE.out B1) HC.out inm ipa ire ish ok HI.out HO.out).mono ?_
  rintro e w2 ⟨rfl, c2⟩
  have B2 := B1.trans (c2.mono B1.size)
  go_wp2_with fail
  have B2a := B2.alloc B2.size (.cells #[.string inm, .int .i64 ish, .string ipa, .string ire] 24)
  refine (rof_any c _ inm ipa ire ish ok HI.out HO.out).mono ?_
  rintro e w3 ⟨rfl, c3⟩
  have B3 := B2a.trans (c3.mono B2a.size)
  have s3 := c3.size
  simp at s3
  have q0 : w3.cell? ⟨w2.heap.size, 0, none⟩ = some (.string inm) := cell_later c3 (by simp)
  have q1 : w3.cell? ⟨w2.heap.size, 1, none⟩ = some (.int .i64 ish) := cell_later c3 (by simp)
  have q2 : w3.cell? ⟨w2.heap.size, 2, none⟩ = some (.string ipa) := cell_later c3 (by simp)
  have q3 : w3.cell? ⟨w2.heap.size, 3, none⟩ = some (.string ire) := cell_later c3 (by simp)
  clear c2 c3
  go_wp2_with fail
  have B3a := B3.alloc B3.size (.cells #[.string inm, .int .i64 ish, .string ipa, .string ire] 27)
  have p0 : (w3.alloc (.cells #[.string inm, .int .i64 ish, .string ipa, .string ire] 27)).cell? ⟨w2.heap.size, 0, none⟩ = some (.string inm) := (World.cell?_alloc_past _ _ _ (by omega)).trans q0
  have p1 : (w3.alloc (.cells #[.string inm, .int .i64 ish, .string ipa, .string ire] 27)).cell? ⟨w2.heap.size, 1, none⟩ = some (.int .i64 ish) := (World.cell?_alloc_past _ _ _ (by omega)).trans q1
  have p2 : (w3.alloc (.cells #[.string inm, .int .i64 ish, .string ipa, .string ire] 27)).cell? ⟨w2.heap.size, 2, none⟩ = some (.string ipa) := (World.cell?_alloc_past _ _ _ (by omega)).trans q2
  have p3 : (w3.alloc (.cells #[.string inm, .int .i64 ish, .string ipa, .string ire] 27)).cell? ⟨w2.heap.size, 3, none⟩ = some (.string ire) := (World.cell?_alloc_past _ _ _ (by omega)).trans q3
  refine (code_any nm _ (opEnv_later HE.out B3a) v fine HV.out HF.out).mono ?_
  rintro e w4 ⟨rfl, c4⟩
  have B4 := B3a.trans (c4.mono B3a.size)
  have s4 := c4.size
  simp at s4
  have P0 := Lib.hid (cell_later c4 p0)
  have P1 := Lib.hid (cell_later c4 p1)
  have P2 := Lib.hid (cell_later c4 p2)
  have P3 := Lib.hid (cell_later c4 p3)
  have Q0 := Lib.hid (show w4.cell? ⟨w3.heap.size, 0, none⟩ = some (.string inm) from cell_later c4 (by simp))
  have Q1 := Lib.hid (show w4.cell? ⟨w3.heap.size, 1, none⟩ = some (.int .i64 ish) from cell_later c4 (by simp))
  have Q2 := Lib.hid (show w4.cell? ⟨w3.heap.size, 2, none⟩ = some (.string ipa) from cell_later c4 (by simp))
  have Q3 := Lib.hid (show w4.cell? ⟨w3.heap.size, 3, none⟩ = some (.string ire) from cell_later c4 (by simp))
  clear q0 q1 q2 q3 p0 p1 p2 p3 c4
  go_wp2_with fail
  refine (rcode_any nm _ v fine HV.out HF.out).mono ?_
  rintro e w5 ⟨rfl, c5⟩
  have B5 := B4.trans (c5.mono B4.size)
  have p0 := cell_later c5 P0.out
  have p1 := cell_later c5 P1.out
  have p2 := cell_later c5 P2.out
  have p3 := cell_later c5 P3.out
  have q0 := cell_later c5 Q0.out
  have q1 := cell_later c5 Q1.out
  have q2 := cell_later c5 Q2.out
  have q3 := cell_later c5 Q3.out
  have e0 := eqS inm
  have e1 := eqS ipa
  have e2 := eqS ire
  clear c5
  go_wp2_with fail
  refine (float_any c _).mono ?_
  rintro e w6 ⟨rfl, c6⟩
  have B6 := B5.trans (c6.mono B5.size)
  obtain ⟨fb, hfb⟩ : ∃ b, floatB c = b := ⟨_, rfl⟩
  rw [hfb]
  have HFB := Lib.hid hfb
  clear hfb
  go_wp2_with fail
  refine (rfloat_any c _).mono ?_
  rintro e w7 ⟨rfl, rfl⟩
  rw [HFB.out]
  go_wp2_with fail
  go_ret
  exact ⟨rfl, B6⟩
abbrev HeldX (w : World) (op A B : Int) (lv : Value) (W : World) : Prop := W.cell? ⟨w.heap.size, 0, none⟩ = some (.int .i64 op) ∧ W.cell? ⟨w.heap.size, 1, none⟩ = some (.int .i64 A) ∧ W.cell? ⟨w.heap.size, 2, none⟩ = some (.int .i64 B) ∧ W.cell? ⟨w.heap.size, 3, none⟩ = some lv ∧ Below w.heap.size w W
theorem heldX_later {w : World} {op A B : Int} {lv : Value} {W W' : World} (c : Below W.heap.size W W') (h : HeldX w op A B lv W) : HeldX w op A B lv W' :=
  ⟨cell_later c h.1, cell_later c h.2.1, cell_later c h.2.2.1, cell_later c h.2.2.2.1, h.2.2.2.2.trans (c.mono h.2.2.2.2.size)⟩
def RightH (f : FuncId) (w : World) (op A B : Int) (lv : Value) (b : Bool) : Prop := ∀ W, Below w.heap.size w W → Calls Tryd.prog f #[.agg #[.int .i64 op, .int .i64 A, .int .i64 B, lv]] W fun e w' => e = .returned (.bool b) ∧ Below W.heap.size W w'
set_option maxRecDepth 100000 in
set_option maxHeartbeats 2000000 in
theorem rights_core (op A B : Int) (lv : Value) (b : Bool) (w : World) (hE : OpEnv w) (h1 : RightH 20 w op A B lv b) (h2 : RightH 21 w op A B lv b) :
    Calls Tryd.prog 4 #[.agg #[.int .i64 op, .int .i64 A, .int .i64 B, lv]] w fun e w' => e = .returned (.bool true) ∧ Below w.heap.size w w' := by
  have HE := Lib.hid hE
  have H1 := Lib.hid h1
  have H2 := Lib.hid h2
  clear hE h1 h2
  have B0 : Below w.heap.size w (w.alloc (.cells #[.int .i64 op, .int .i64 A, .int .i64 B, lv] 36)) := (Below.refl _ _).alloc (Nat.le_refl _) _
  go_enter Tryd.func4, Tryd.ntmps4
  go_wp2_with fail
  refine (examples_any _ (opEnv_later HE.out B0)).mono ?_
  rintro e w1 ⟨rfl, c1⟩
  have B1 := B0.trans (c1.mono B0.size)
  have r0 : w1.cell? ⟨w.heap.size, 0, none⟩ = some (.int .i64 op) := cell_later c1 (by simp)
  have r1 : w1.cell? ⟨w.heap.size, 1, none⟩ = some (.int .i64 A) := cell_later c1 (by simp)
  have r2 : w1.cell? ⟨w.heap.size, 2, none⟩ = some (.int .i64 B) := cell_later c1 (by simp)
  have r3 : w1.cell? ⟨w.heap.size, 3, none⟩ = some lv := cell_later c1 (by simp)
  have HX := Lib.hid (show HeldX w op A B lv w1.drew from ⟨r0, r1, r2, r3, B1.drew⟩)
  clear c1 r0 r1 r2 r3 B1
  go_wp2_with fail
  go_region_held3 (fun W => HeldX w op A B lv W) (first | exact k2 (by assumption) | exact HX.out)
    (first
      | (go_at_call 20; refine (H1.out _ ?_).mono ?_; (exact (‹HeldX w op A B lv _›).2.2.2.2); rintro e W2 ⟨rfl, c2⟩; have k2 := fun h => heldX_later (w := w) (op := op) (A := A) (B := B) (lv := lv) c2 h)
      | (go_at_call 21; refine (H2.out _ ?_).mono ?_; (exact (‹HeldX w op A B lv _›).2.2.2.2); rintro e W2 ⟨rfl, c2⟩; have k2 := fun h => heldX_later (w := w) (op := op) (A := A) (B := B) (lv := lv) c2 h))
  all_goals
    go_wp2_with fail
    go_ret
    exact ⟨by simp, (‹HeldX w op A B lv _›).2.2.2.2⟩
theorem rights_walk (op A B : Int) (lv : Value) (zs : List Int) (w : World) (hE : OpEnv w) (hop : (Lit.int .i64 op).wf = true) (h63 : zs.length ≤ 9223372036854775807) (hl : IntsAt w lv zs) :
    Calls Tryd.prog 4 #[.agg #[.int .i64 op, .int .i64 A, .int .i64 B, lv]] w fun e w' => e = .returned (.bool true) ∧ Below w.heap.size w w' :=
  rights_core op A B lv (rightB op A B zs) w hE (fun W hB => right_any op A B lv zs W (opEnv_later hE hB) hop (intsAt_later hl hB)) (fun W hB => rright_any op A B lv zs W h63 (intsAt_later hl hB))
theorem rights_walk_nil (op A B : Int) (la : Option Addr) (cp : Nat) (w : World) (hE : OpEnv w) (hop : (Lit.int .i64 op).wf = true) :
    Calls Tryd.prog 4 #[.agg #[.int .i64 op, .int .i64 A, .int .i64 B, .slice la 0 cp]] w fun e w' => e = .returned (.bool true) ∧ Below w.heap.size w w' :=
  rights_core op A B _ (rightB op A B []) w hE (fun W hB => right_nil op A B la cp W (opEnv_later hE hB) hop) (fun W hB => rright_nil op A B la cp W)
end Go.Proofs.YtlbgbpgjccbbjaaDoor.Op
