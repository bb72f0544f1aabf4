/-
  What package op's Right answers where there are no labels. No condition beyond what each theorem names.
-/
import Derived.Test.YtmfdabkmijbffaaGreatDoorOpRight
namespace Go.Proofs.YtmfdabkmijbffaaGreatDoor.Op
open Go.RowKit Go.Maps
set_option linter.unusedVariables false
theorem tail_0 (op A B : Int) : tailB 0 op A B = (A == 0) := by unfold tailB; rw [if_pos (.inl rfl)]
theorem tail_6 (op A B : Int) : tailB 6 op A B = (A == 0) := by unfold tailB; rw [if_pos (.inr rfl)]
theorem tail_1 (op A B : Int) : tailB 1 op A B = (A == 64 || A == 127 || A == 126) := by unfold tailB; rw [if_neg (by decide), if_pos rfl]
theorem tail_7 (op A B : Int) : tailB 7 op A B = (op == 66 || A == wrap32 A) := by unfold tailB; rw [if_neg (by decide), if_neg (by decide), if_pos rfl]
theorem tail_w (sh op A B : Int) (h : 2 ≤ sh) (h2 : sh ≤ 5) : tailB sh op A B = (wordB A && wordB B) := by unfold tailB; rw [if_neg (by omega), if_neg (by omega), if_neg (by omega)]
theorem right_tail {op : Int} {nm p r : ByteArray} {sh : Int} (hi : opInfo op = some ⟨nm, sh, p, r⟩) (A B : Int) (h : B = 0 ∨ sh = 5) : rightB op A B [] = tailB sh op A B := by
  unfold rightB
  rw [hi]
  show rightI ⟨nm, sh, p, r⟩ op A B [] = _
  unfold rightI
  rw [if_neg (fun t => h.elim t.1 t.2), if_neg (by simp), if_neg (by simp), if_pos (show allWords [] = true from rfl)]
theorem right_bad {op : Int} {nm p r : ByteArray} {sh : Int} (hi : opInfo op = some ⟨nm, sh, p, r⟩) (A B : Int) (zs : List Int) (h : B ≠ 0) (h2 : sh ≠ 5) : rightB op A B zs = false := by
  unfold rightB
  rw [hi]
  show rightI ⟨nm, sh, p, r⟩ op A B zs = _
  unfold rightI
  rw [if_pos ⟨h, h2⟩]
theorem shapes_all : (tableL.all fun e => decide (0 ≤ e.2.shape) && decide (e.2.shape ≤ 7)) = true := by kernel_rfl
theorem shape_range {op : Int} {i : Info} (hi : opInfo op = some i) : 0 ≤ i.shape ∧ i.shape ≤ 7 := by
  have h := List.all_eq_true.1 shapes_all _ (opInfo_mem hi)
  simpa using h
theorem words2 (A B : Int) : allWords [A, B] = (wordB A && wordB B) := by simp [allWords]
theorem word0 : wordB 0 = true := by decide
/-- Right, no labels -/
theorem right_nil (op A B : Int) (la : Option Addr) (cp : Nat) (w : World) (hE : OpEnv w) (hop : (Lit.int .i64 op).wf = true) :
    Calls Tryz.prog 71 #[.agg #[.int .i64 op, .int .i64 A, .int .i64 B, .slice la 0 cp]] w fun e w' => e = .returned (.bool (rightB op A B [])) ∧ Below w.heap.size w w' := by
  cases hi : opInfo op with
  | none =>
    rw [show rightB op A B [] = false by unfold rightB; rw [hi]]
    exact right_none op A B _ w hE hop hi
  | some i =>
    obtain ⟨nm, sh, p, r⟩ := i
    obtain ⟨s0, s1⟩ := shape_range hi
    by_cases hb : B ≠ 0 ∧ sh ≠ 5
    · rw [right_bad hi A B [] hb.1 hb.2]
      exact right_b op A B _ nm p r sh w (beq_eq_false_iff_ne.2 hb.1) (beq_eq_false_iff_ne.2 hb.2) hE hop hi
    · have hb2 : B = 0 ∨ sh = 5 := by
        by_cases h0 : B = 0
        · exact .inl h0
        · exact .inr (Classical.byContradiction fun h => hb ⟨h0, h⟩)
      rw [right_tail hi A B hb2]
      by_cases h5 : sh = 5
      · subst h5
        rw [tail_w 5 op A B (by decide) (by decide), ← words2]
        by_cases h0 : B = 0
        · exact right_s5a op A B nm p r w la cp (by simp [h0]) hE hop hi
        · exact right_s5b op A B nm p r w la cp (beq_eq_false_iff_ne.2 h0) hE hop hi
      · obtain rfl : B = 0 := hb2.resolve_right h5
        rcases (show sh = 0 ∨ sh = 1 ∨ sh = 2 ∨ sh = 3 ∨ sh = 4 ∨ sh = 6 ∨ sh = 7 by simp at s0 s1; omega) with rfl | rfl | rfl | rfl | rfl | rfl | rfl
        · rw [tail_0]; exact right_s0 op A nm p r w la cp hE hop hi
        · rw [tail_1]
          cases h1 : (A == 64)
          · cases h2 : (A == 127)
            · exact right_s1c op A nm p r w la cp h1 h2 hE hop hi
            · exact right_s1b op A nm p r w la cp h1 h2 hE hop hi
          · exact right_s1a op A nm p r w la cp h1 hE hop hi
        · rw [tail_w 2 op A 0 (by decide) (by decide), ← words2]; exact right_s2 op A nm p r w la cp hE hop hi
        · rw [tail_w 3 op A 0 (by decide) (by decide), ← words2]; exact right_s3 op A nm p r w la cp hE hop hi
        · rw [tail_w 4 op A 0 (by decide) (by decide), ← words2]; exact right_s4 op A nm p r w la cp hE hop hi
        · rw [tail_6]; exact right_s6 op A nm p r w la cp hE hop hi
        · rw [tail_7]
          cases h1 : (op == 66)
          · exact right_s7b op A nm p r w la cp h1 hE hop hi
          · exact right_s7a op A nm p r w la cp h1 hE hop hi
theorem right_v (op A B : Int) (la : Option Addr) (cp : Nat) (w : World) (hE : OpEnv w) (hop : (Lit.int .i64 op).wf = true) (v : Bool) (hv : rightB op A B [] = v) :
    Calls Tryz.prog 71 #[.agg #[.int .i64 op, .int .i64 A, .int .i64 B, .slice la 0 cp]] w fun e w' => e = .returned (.bool v) ∧ Below w.heap.size w w' := by
  rw [← hv]
  exact right_nil op A B la cp w hE hop
end Go.Proofs.YtmfdabkmijbffaaGreatDoor.Op
