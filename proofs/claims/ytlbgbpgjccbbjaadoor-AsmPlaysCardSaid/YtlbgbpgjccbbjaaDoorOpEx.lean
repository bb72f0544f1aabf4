/-
  What package op's Right answers where there are no labels; the chapter's examples. No condition beyond what each theorem names.
-/
import Derived.Test.YtlbgbpgjccbbjaaDoorOpRight
import Derived.Test.YtlbgbpgjccbbjaaDoorOpCode
namespace Go.Proofs.YtlbgbpgjccbbjaaDoor.Op
open Go.RowKit Go.Maps
set_option linter.unusedVariables false
theorem tail_0 (op A B : Int) : tailB 0 op A B = (A == 0) := by unfold tailB; rw [if_pos (.inl rfl)]
theorem tail_6 (op A B : Int) : tailB 6 op A B = (A == 0) := by unfold tailB; rw [if_pos (.inr rfl)]
theorem tail_1 (op A B : Int) : tailB 1 op A B = (A == 64 || A == 127 || A == 126) := by unfold tailB; rw [if_neg (by decide), if_pos rfl]
theorem tail_7 (op A B : Int) : tailB 7 op A B = (op == 66 || A == wrap32 A) := by unfold tailB; rw [if_neg (by decide), if_neg (by decide), if_pos rfl]
theorem tail_w (sh op A B : Int) (h : 2 ≤ sh) (h2 : sh ≤ 5) : tailB sh op A B = (wordB A && wordB B) := by unfold tailB; rw [if_neg (by omega), if_neg (by omega), if_neg (by omega)]
theorem right_tail {op : Int} {nm p r : ByteArray} {sh : Int} (hi : opInfo op = some ⟨nm, sh, p, r⟩) (A B : Int) (h : B = 0 ∨ sh = 5) : rightB op A B [] = tailB sh op A B := by
  unfold rightB
  rw [hi]
  show rightI ⟨nm, sh, p, r⟩ op A B [] = _
  unfold rightI
  rw [if_neg (fun t => h.elim t.1 t.2), if_neg (by simp), if_neg (by simp), if_pos (show allWords [] = true from rfl)]
theorem right_bad {op : Int} {nm p r : ByteArray} {sh : Int} (hi : opInfo op = some ⟨nm, sh, p, r⟩) (A B : Int) (zs : List Int) (h : B ≠ 0) (h2 : sh ≠ 5) : rightB op A B zs = false := by
  unfold rightB
  rw [hi]
  show rightI ⟨nm, sh, p, r⟩ op A B zs = _
  unfold rightI
  rw [if_pos ⟨h, h2⟩]
theorem shapes_all : (tableL.all fun e => decide (0 ≤ e.2.shape) && decide (e.2.shape ≤ 7)) = true := by kernel_rfl
theorem shape_range {op : Int} {i : Info} (hi : opInfo op = some i) : 0 ≤ i.shape ∧ i.shape ≤ 7 := by
  have h := List.all_eq_true.1 shapes_all _ (opInfo_mem hi)
  simpa using h
theorem words2 (A B : Int) : allWords [A, B] = (wordB A && wordB B) := by simp [allWords]
theorem word0 : wordB 0 = true := by decide
/-- Right, no labels -/
theorem right_nil (op A B : Int) (la : Option Addr) (cp : Nat) (w : World) (hE : OpEnv w) (hop : (Lit.int .i64 op).wf = true) :
    Calls Tryd.prog 20 #[.agg #[.int .i64 op, .int .i64 A, .int .i64 B, .slice la 0 cp]] w fun e w' => e = .returned (.bool (rightB op A B [])) ∧ Below w.heap.size w w' := by
  cases hi : opInfo op with
  | none =>
    rw [show rightB op A B [] = false by unfold rightB; rw [hi]]
    exact right_none op A B _ w hE hop hi
  | some i =>
    obtain ⟨nm, sh, p, r⟩ := i
    obtain ⟨s0, s1⟩ := shape_range hi
    by_cases hb : B ≠ 0 ∧ sh ≠ 5
    · rw [right_bad hi A B [] hb.1 hb.2]
      exact right_b op A B _ nm p r sh w (beq_eq_false_iff_ne.2 hb.1) (beq_eq_false_iff_ne.2 hb.2) hE hop hi
    · have hb2 : B = 0 ∨ sh = 5 := by
        by_cases h0 : B = 0
        · exact .inl h0
        · exact .inr (Classical.byContradiction fun h => hb ⟨h0, h⟩)
      rw [right_tail hi A B hb2]
      by_cases h5 : sh = 5
      · subst h5
        rw [tail_w 5 op A B (by decide) (by decide), ← words2]
        by_cases h0 : B = 0
        · exact right_s5a op A B nm p r w la cp (by simp [h0]) hE hop hi
        · exact right_s5b op A B nm p r w la cp (beq_eq_false_iff_ne.2 h0) hE hop hi
      · obtain rfl : B = 0 := hb2.resolve_right h5
        rcases (show sh = 0 ∨ sh = 1 ∨ sh = 2 ∨ sh = 3 ∨ sh = 4 ∨ sh = 6 ∨ sh = 7 by simp at s0 s1; omega) with rfl | rfl | rfl | rfl | rfl | rfl | rfl
        · rw [tail_0]; exact right_s0 op A nm p r w la cp hE hop hi
        · rw [tail_1]
          cases h1 : (A == 64)
          · cases h2 : (A == 127)
            · exact right_s1c op A nm p r w la cp h1 h2 hE hop hi
            · exact right_s1b op A nm p r w la cp h1 h2 hE hop hi
          · exact right_s1a op A nm p r w la cp h1 hE hop hi
        · rw [tail_w 2 op A 0 (by decide) (by decide), ← words2]; exact right_s2 op A nm p r w la cp hE hop hi
        · rw [tail_w 3 op A 0 (by decide) (by decide), ← words2]; exact right_s3 op A nm p r w la cp hE hop hi
        · rw [tail_w 4 op A 0 (by decide) (by decide), ← words2]; exact right_s4 op A nm p r w la cp hE hop hi
        · rw [tail_6]; exact right_s6 op A nm p r w la cp hE hop hi
        · rw [tail_7]
          cases h1 : (op == 66)
          · exact right_s7b op A nm p r w la cp h1 hE hop hi
          · exact right_s7a op A nm p r w la cp h1 hE hop hi
theorem right_v (op A B : Int) (la : Option Addr) (cp : Nat) (w : World) (hE : OpEnv w) (hop : (Lit.int .i64 op).wf = true) (v : Bool) (hv : rightB op A B [] = v) :
    Calls Tryd.prog 20 #[.agg #[.int .i64 op, .int .i64 A, .int .i64 B, .slice la 0 cp]] w fun e w' => e = .returned (.bool v) ∧ Below w.heap.size w w' := by
  rw [← hv]
  exact right_nil op A B la cp w hE hop
theorem i106 : opInfo 106 = some ⟨⟨#[105, 51, 50, 46, 97, 100, 100]⟩, 0, ⟨#[127, 127]⟩, ⟨#[127]⟩⟩ := by kernel_rfl
theorem i65 : opInfo 65 = some ⟨⟨#[105, 51, 50, 46, 99, 111, 110, 115, 116]⟩, 7, ⟨#[]⟩, ⟨#[127]⟩⟩ := by kernel_rfl
theorem cconst : codeOf [105, 54, 52, 46, 99, 111, 110, 115, 116] = some 66 := by kernel_rfl
theorem ex_a : rightB 65 (-1) 0 [] = true := by
  rw [right_tail i65 _ _ (.inl rfl), tail_7, show wrap32 (-1) = -1 by unfold wrap32; omega]
  decide
theorem ex_b : rightB 65 2147483648 0 [] = false := by
  rw [right_tail i65 _ _ (.inl rfl), tail_7, show wrap32 2147483648 = -2147483648 by unfold wrap32; omega]
  decide
set_option maxRecDepth 100000 in
set_option maxHeartbeats 1000000 in
theorem examples_any (w : World) (hE : OpEnv w) : Calls Tryd.prog 13 #[] w fun e w' => e = .returned (.bool true) ∧ Below w.heap.size w w' := by
  have HE := Lib.hid hE
  clear hE
  go_enter Tryd.func13, Tryd.ntmps13
  go_wp2_with fail
  refine (of_lit 106 _ HE.out (by decide) _ _ _ _ true (congrArg (fun o => Option.getD o zeroI) i106) (congrArg Option.isSome i106)).mono ?_
  rintro e w1 ⟨rfl, c1⟩
  go_wp2_with fail
  have B1 := c1.alloc c1.size (.cells #[.string ⟨#[105, 51, 50, 46, 97, 100, 100]⟩, .int .i64 0, .string ⟨#[127, 127]⟩, .string ⟨#[127]⟩] 24)
  have s1 := c1.size
  refine (code_any _ _ (opEnv_later HE.out B1) 66 true (congrArg (fun o => Option.getD o 0) cconst) (congrArg Option.isSome cconst)).mono ?_
  rintro e w2 ⟨rfl, c2⟩
  have B2 := B1.trans (c2.mono B1.size)
  have r0 : w2.cell? ⟨w1.heap.size, 0, none⟩ = some (.string ⟨#[105, 51, 50, 46, 97, 100, 100]⟩) := cell_later c2 (by simp)
  have r2 : w2.cell? ⟨w1.heap.size, 2, none⟩ = some (.string ⟨#[127, 127]⟩) := cell_later c2 (by simp)
  have r3 : w2.cell? ⟨w1.heap.size, 3, none⟩ = some (.string ⟨#[127]⟩) := cell_later c2 (by simp)
  have s2 := c2.size
  simp at s2
  clear c1 c2 B1
  go_wp2_with fail
  refine (right_v 65 (-1) 0 none 0 _ (opEnv_later HE.out B2) (by decide) true ex_a).mono ?_
  rintro e w3 ⟨rfl, c3⟩
  have B3 := B2.trans (c3.mono B2.size)
  go_wp2_with fail
  refine (right_v 65 2147483648 0 none 0 _ (opEnv_later HE.out B3) (by decide) false ex_b).mono ?_
  rintro e w4 ⟨rfl, c4⟩
  have B4 := B3.trans (c4.mono B3.size)
  go_wp2_with fail
  refine (float_any 67 _).mono ?_
  rintro e w5 ⟨rfl, c5⟩
  have B5 := B4.trans (c5.mono B4.size)
  rw [show floatB 67 = true by decide]
  go_wp2_with fail
  go_ret
  exact ⟨rfl, B5⟩
end Go.Proofs.YtlbgbpgjccbbjaaDoor.Op
